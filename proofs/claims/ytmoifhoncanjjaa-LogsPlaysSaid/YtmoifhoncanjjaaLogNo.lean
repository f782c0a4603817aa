/-
  Append where the log is full; Cut and Trim where the op is not within.
-/
import Derived.Test.YtmoifhoncanjjaaRfNew
import Derived.Test.YtmoifhoncanjjaaLogApp
import Derived.Test.YtmoifhoncanjjaaLogCut
namespace Go.Proofs.Ytmoifhoncanjjaa
open Go.RowKit
set_option linter.unusedSimpArgs false

set_option maxHeartbeats 800000 in
theorem log_Append_full {w : World} {S : Nat → Prop} {b : Nat} {m : Int} {es : List Ent} {e : Ent} {p : Option Addr} {n c : Nat} (h : LogAt w S b m es) (hl : es.length = 64) :
    Calls Try.prog 8 #[.pointer (some ⟨b, 0, none⟩), entVal e (.slice p n c)] w fun x w' => x = .returned (.tuple #[.int .u64 0, .int .i64 7]) ∧ Below w.heap.size w w' := by
  have hX0 := (Below.refl w.heap.size w).alloc (Nat.le_refl _) (.cells #[.int .u64 e.t, .int .u32 e.c, .int .u64 e.r, .slice p n c] 33)
  obtain ⟨p', c', hB, -⟩ := h
  have hB1 := hB.alloc (.cells #[.int .u64 e.t, .int .u32 e.c, .int .u64 e.r, .slice p n c] 33)
  rw [hl] at hB1
  obtain ⟨a0, a1, a2, f0, f1, f2, hz⟩ := hB1.c3
  have HB := Lib.hid hB1
  have HX0 := Lib.hid hX0
  clear hX0 hB hB1
  unfold entVal
  go_enter Try.func8, Try.ntmps8
  go_wp2_with fail
  refine (log_none HB.out).mono ?_
  rintro x w' ⟨rfl, rfl⟩
  go_wp2_with fail
  go_ret2
  exact ⟨rfl, HX0.out⟩

theorem log_Cut_none {w : World} {S : Nat → Prop} {b : Nat} {m op : Int} {es : List Ent} (hL : LogAt w S b m es) (ok : LogOk m es) (ho : m + es.length < op) :
    Calls Try.prog 11 #[.pointer (some ⟨b, 0, none⟩), .int .u64 op] w fun x w' => x = .returned (.int .i64 6) ∧ Below w.heap.size w w' := by
  obtain ⟨p, c, hB, -⟩ := hL
  have hB1 := (hB.alloc (.cells #[.pointer (some ⟨b, 0, none⟩)] 24)).alloc (.cells #[.int .u64 op] 22)
  have Ok := Lib.hid ok
  have HB := Lib.hid hB1
  clear ok hB hB1
  go_enter Try.func11, Try.ntmps11
  go_wp2_with fail
  refine (log_at_none HB.out Ok.out.low Ok.out.high Ok.out.len ho).mono ?_
  rintro x w1 ⟨rfl, rfl⟩
  go_wp2_with fail
  go_ret
  refine ⟨rfl, ?_⟩
  repeat' (first | (with_reducible exact Below.refl _ _) | (with_reducible refine Below.setCell ?_ (by simp) _) | (with_reducible refine Below.alloc ?_ (by simp) _))

theorem log_Cut_gone {w : World} {S : Nat → Prop} {b : Nat} {m op : Int} {es : List Ent} (hL : LogAt w S b m es) (ok : LogOk m es) (h1 : op ≤ m + es.length) (ho : op < m) :
    Calls Try.prog 11 #[.pointer (some ⟨b, 0, none⟩), .int .u64 op] w fun x w' => x = .returned (.int .i64 32) ∧ Below w.heap.size w w' := by
  obtain ⟨p, c, hB, -⟩ := hL
  have hB1 := (hB.alloc (.cells #[.pointer (some ⟨b, 0, none⟩)] 24)).alloc (.cells #[.int .u64 op] 22)
  have Ok := Lib.hid ok
  have HB := Lib.hid hB1
  clear ok hB hB1
  go_enter Try.func11, Try.ntmps11
  go_wp2_with fail
  refine (log_at_gone HB.out Ok.out.low Ok.out.high Ok.out.len h1 (by omega)).mono ?_
  rintro x w1 ⟨rfl, rfl⟩
  go_wp2_with fail
  go_ret
  refine ⟨rfl, ?_⟩
  repeat' (first | (with_reducible exact Below.refl _ _) | (with_reducible refine Below.setCell ?_ (by simp) _) | (with_reducible refine Below.alloc ?_ (by simp) _))

theorem log_Trim_none {w : World} {S : Nat → Prop} {b : Nat} {m op : Int} {es : List Ent} (hL : LogAt w S b m es) (ok : LogOk m es) (ho : m + es.length < op) :
    Calls Try.prog 12 #[.pointer (some ⟨b, 0, none⟩), .int .u64 op] w fun x w' => x = .returned (.int .i64 6) ∧ Below w.heap.size w w' := by
  obtain ⟨p, c, hB, -⟩ := hL
  have hB1 := hB.alloc (.cells #[.pointer (some ⟨b, 0, none⟩)] 24)
  have Ok := Lib.hid ok
  have HB := Lib.hid hB1
  clear ok hB hB1
  go_enter Try.func12, Try.ntmps12
  go_wp2_with fail
  refine (log_at_none HB.out Ok.out.low Ok.out.high Ok.out.len ho).mono ?_
  rintro x w1 ⟨rfl, rfl⟩
  go_wp2_with fail
  go_ret
  refine ⟨rfl, ?_⟩
  repeat' (first | (with_reducible exact Below.refl _ _) | (with_reducible refine Below.setCell ?_ (by simp) _) | (with_reducible refine Below.alloc ?_ (by simp) _))

theorem log_Trim_gone {w : World} {S : Nat → Prop} {b : Nat} {m op : Int} {es : List Ent} (hL : LogAt w S b m es) (ok : LogOk m es) (h1 : op ≤ m + es.length) (ho : op < m) :
    Calls Try.prog 12 #[.pointer (some ⟨b, 0, none⟩), .int .u64 op] w fun x w' => x = .returned (.int .i64 32) ∧ Below w.heap.size w w' := by
  obtain ⟨p, c, hB, -⟩ := hL
  have hB1 := hB.alloc (.cells #[.pointer (some ⟨b, 0, none⟩)] 24)
  have Ok := Lib.hid ok
  have HB := Lib.hid hB1
  clear ok hB hB1
  go_enter Try.func12, Try.ntmps12
  go_wp2_with fail
  refine (log_at_gone HB.out Ok.out.low Ok.out.high Ok.out.len h1 (by omega)).mono ?_
  rintro x w1 ⟨rfl, rfl⟩
  go_wp2_with fail
  go_ret
  refine ⟨rfl, ?_⟩
  repeat' (first | (with_reducible exact Below.refl _ _) | (with_reducible refine Below.setCell ?_ (by simp) _) | (with_reducible refine Below.alloc ?_ (by simp) _))
end Go.Proofs.Ytmoifhoncanjjaa
