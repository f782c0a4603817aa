/-
  A log that is none: nil, or the zero one; full logs; ops that are not there. (Printed by wip/gen_none.py.)
-/
import Derived.Test.YtmoifhoncanjjaaWakes
namespace Go.Proofs.Ytmoifhoncanjjaa
open Go.RowKit
set_option linter.unusedSimpArgs false

/-- The zero log. -/
def Zero (w : World) (b : Nat) : Prop := Blk w b 67 #[.int .u64 0, .slice none 0 0, .bool false]

theorem none_nil {w : World} : Calls Try.prog 30 #[.pointer none] w fun e w' => e = .returned (.bool true) ∧ w = w' := by
  go_enter Try.func30, Try.ntmps30
  go_wp2
  go_ret
  exact ⟨rfl, rfl⟩
theorem none_zero {w : World} {b : Nat} (h : Zero w b) : Calls Try.prog 30 #[.pointer (some ⟨b, 0, none⟩)] w fun e w' => e = .returned (.bool true) ∧ w = w' := by
  obtain ⟨a0, a1, a2, f0, f1, f2, hz⟩ := h.c3
  clear h
  go_enter Try.func30, Try.ntmps30
  go_wp2
  go_ret
  exact ⟨rfl, rfl⟩
theorem Base_nil {w : World} : Calls Try.prog 13 #[.pointer none] w fun e w' => e = .returned (.int .u64 0) ∧ w = w' := by
  go_enter Try.func13, Try.ntmps13
  go_wp2_with fail
  refine (none_nil).mono ?_
  rintro e w' ⟨rfl, rfl⟩
  go_wp2_with fail
  go_ret
  exact ⟨rfl, rfl⟩
theorem Base_zero {w : World} {b : Nat} (h : Zero w b) : Calls Try.prog 13 #[.pointer (some ⟨b, 0, none⟩)] w fun e w' => e = .returned (.int .u64 0) ∧ w = w' := by
  have H := Lib.hid h
  clear h
  go_enter Try.func13, Try.ntmps13
  go_wp2_with fail
  refine (none_zero H.out).mono ?_
  rintro e w' ⟨rfl, rfl⟩
  go_wp2_with fail
  go_ret
  exact ⟨rfl, rfl⟩
theorem Len_nil {w : World} : Calls Try.prog 18 #[.pointer none] w fun e w' => e = .returned (.int .i64 0) ∧ w = w' := by
  go_enter Try.func18, Try.ntmps18
  go_wp2_with fail
  refine (none_nil).mono ?_
  rintro e w' ⟨rfl, rfl⟩
  go_wp2_with fail
  go_ret
  exact ⟨rfl, rfl⟩
theorem Len_zero {w : World} {b : Nat} (h : Zero w b) : Calls Try.prog 18 #[.pointer (some ⟨b, 0, none⟩)] w fun e w' => e = .returned (.int .i64 0) ∧ w = w' := by
  have H := Lib.hid h
  clear h
  go_enter Try.func18, Try.ntmps18
  go_wp2_with fail
  refine (none_zero H.out).mono ?_
  rintro e w' ⟨rfl, rfl⟩
  go_wp2_with fail
  go_ret
  exact ⟨rfl, rfl⟩
theorem Copy_nil {w : World} : Calls Try.prog 10 #[.pointer none] w fun e w' => e = .returned (.pointer none) ∧ w = w' := by
  go_enter Try.func10, Try.ntmps10
  go_wp2_with fail
  refine (none_nil).mono ?_
  rintro e w' ⟨rfl, rfl⟩
  go_wp2_with fail
  go_ret
  exact ⟨rfl, rfl⟩
theorem at_nil {w : World} {op least : Int} {d : Value} : Calls Try.prog 33 #[.pointer none, .int .u64 op, .int .u64 least, d] w fun e w' => e = .returned (.int .i64 2) ∧ w = w' := by
  go_enter Try.func33, Try.ntmps33
  go_wp2_with fail
  refine (none_nil).mono ?_
  rintro e w' ⟨rfl, rfl⟩
  go_wp2_with fail
  go_ret
  exact ⟨rfl, rfl⟩
theorem at_zero {w : World} {b : Nat} (h : Zero w b) {op least : Int} {d : Value} : Calls Try.prog 33 #[.pointer (some ⟨b, 0, none⟩), .int .u64 op, .int .u64 least, d] w fun e w' => e = .returned (.int .i64 2) ∧ w = w' := by
  have H := Lib.hid h
  clear h
  go_enter Try.func33, Try.ntmps33
  go_wp2_with fail
  refine (none_zero H.out).mono ?_
  rintro e w' ⟨rfl, rfl⟩
  go_wp2_with fail
  go_ret
  exact ⟨rfl, rfl⟩
theorem Op_nil {w : World} : Calls Try.prog 9 #[.pointer none] w fun e w' => e = .returned (.int .u64 0) ∧ w = w' := by
  go_enter Try.func9, Try.ntmps9
  go_wp2_with fail
  refine Base_nil.mono ?_
  rintro e w' ⟨rfl, rfl⟩
  go_wp2_with fail
  refine Len_nil.mono ?_
  rintro e w' ⟨rfl, rfl⟩
  go_wp2_with fail
  go_ret
  exact ⟨rfl, rfl⟩

theorem Append_nil {w : World} {e : Ent} {p : Option Addr} {n c : Nat} : Calls Try.prog 8 #[.pointer none, entVal e (.slice p n c)] w fun x w' => x = .returned (.tuple #[.int .u64 0, .int .i64 2]) ∧ Below w.heap.size w w' := by
  unfold entVal
  go_enter Try.func8, Try.ntmps8
  go_wp2_with fail
  refine none_nil.mono ?_
  rintro e w' ⟨rfl, rfl⟩
  go_wp2_with fail
  go_ret2
  exact ⟨rfl, (Below.refl _ _).alloc (Nat.le_refl _) _⟩

theorem Append_full {w : World} {b c : Nat} {m : Int} {p : Option Addr} {e : Ent} {q : Option Addr} {n d k : Nat} (h : Blk w b 67 #[.int .u64 m, .slice p k c, .bool true]) (hk : 64 ≤ k) :
    Calls Try.prog 8 #[.pointer (some ⟨b, 0, none⟩), entVal e (.slice q n d)] w fun x w' => x = .returned (.tuple #[.int .u64 0, .int .i64 7]) ∧ Below w.heap.size w w' := by
  unfold entVal
  have HB := Lib.hid h
  have hlt := h.lt
  clear h
  go_enter Try.func8, Try.ntmps8
  go_wp2_with fail
  refine (log_none (Blk.alloc HB.out _)).mono ?_
  rintro x w' ⟨rfl, rfl⟩
  obtain ⟨a0, a1, a2, f0, f1, f2, hz⟩ := (Blk.alloc HB.out (.cells #[.int .u64 e.t, .int .u32 e.c, .int .u64 e.r, .slice q n d] 33)).c3
  go_wp2_with fail
  go_ret2
  exact ⟨rfl, (Below.refl _ _).alloc (Nat.le_refl _) _⟩

theorem Get_zero {w : World} {b : Nat} (h : Zero w b) {op : Int} : Calls Try.prog 14 #[.pointer (some ⟨b, 0, none⟩), .int .u64 op] w fun x w' => x = .returned (.tuple #[entVal ⟨0, 0, 0, []⟩ (.slice none 0 0), .int .i64 2]) ∧ Below w.heap.size w w' := by
  have HB := Lib.hid ((Blk.alloc h (.cells #[.pointer (some ⟨b, 0, none⟩)] 24)).alloc (.cells #[.int .u64 0, .int .u32 0, .int .u64 0, .slice none 0 0] 33))
  have hlt := h.lt
  clear h
  go_enter Try.func14, Try.ntmps14
  go_wp2_with fail
  refine (at_zero HB.out).mono ?_
  rintro x w1 ⟨rfl, rfl⟩
  go_wp2_with fail
  refine bodyPost_ret (v := .tuple #[entVal ⟨0, 0, 0, []⟩ (.slice none 0 0), .int .i64 2]) (by simp [results, Try.results14, go_sem, entVal]) rfl ⟨rfl, ?_⟩
  repeat' (first | (with_reducible exact Below.refl _ _) | (with_reducible refine Below.setCell ?_ (by simp) _) | (with_reducible refine Below.alloc ?_ (by simp) _))

theorem From_nil {w : World} {op : Int} : Calls Try.prog 16 #[.pointer none, .int .u64 op] w fun x w' => x = .returned (.tuple #[.slice none 0 0, .int .i64 2]) ∧ Below w.heap.size w w' := by
  go_enter Try.func16, Try.ntmps16
  go_wp2_with fail
  refine at_nil.mono ?_
  rintro x w1 ⟨rfl, rfl⟩
  go_wp2_with fail
  refine bodyPost_ret (v := .tuple #[.slice none 0 0, .int .i64 2]) (by simp [results, Try.results16, go_sem]) rfl ⟨rfl, ?_⟩
  repeat' (first | (with_reducible exact Below.refl _ _) | (with_reducible refine Below.setCell ?_ (by simp) _) | (with_reducible refine Below.alloc ?_ (by simp) _))

theorem Cut_nil {w : World} {op : Int} : Calls Try.prog 11 #[.pointer none, .int .u64 op] w fun x w' => x = .returned (.int .i64 2) ∧ Below w.heap.size w w' := by
  go_enter Try.func11, Try.ntmps11
  go_wp2_with fail
  refine at_nil.mono ?_
  rintro x w1 ⟨rfl, rfl⟩
  go_wp2_with fail
  go_ret
  exact ⟨rfl, ((Below.refl _ _).alloc (Nat.le_refl _) _).alloc (by simp) _⟩

theorem Trim_zero {w : World} {b : Nat} (h : Zero w b) {op : Int} : Calls Try.prog 12 #[.pointer (some ⟨b, 0, none⟩), .int .u64 op] w fun x w' => x = .returned (.int .i64 2) ∧ Below w.heap.size w w' := by
  have HB := Lib.hid (Blk.alloc h (.cells #[.pointer (some ⟨b, 0, none⟩)] 24))
  have hlt := h.lt
  clear h
  go_enter Try.func12, Try.ntmps12
  go_wp2_with fail
  refine (at_zero HB.out).mono ?_
  rintro x w1 ⟨rfl, rfl⟩
  go_wp2_with fail
  go_ret
  exact ⟨rfl, (Below.refl _ _).alloc (Nat.le_refl _) _⟩

theorem Find_zero {w : World} {b : Nat} (h : Zero w b) {c r : Int} : Calls Try.prog 20 #[.pointer (some ⟨b, 0, none⟩), .int .u32 c, .int .u64 r] w fun x w' => x = .returned (.tuple #[.int .u64 0, .bool false]) ∧ Below w.heap.size w w' := by
  have HB := Lib.hid (((((Blk.alloc h (.cells #[.pointer (some ⟨b, 0, none⟩)] 24)).alloc (.cells #[.int .u32 c] 30)).alloc (.cells #[.int .u64 r] 22)).alloc (.cells #[.int .u64 0] 22)).alloc (.cells #[.bool false] 4))
  have hlt := h.lt
  clear h
  go_enter Try.func20, Try.ntmps20
  go_wp2_with fail
  refine (none_zero HB.out).mono ?_
  rintro x w1 ⟨rfl, rfl⟩
  go_wp2_with fail
  refine bodyPost_ret (v := .tuple #[.int .u64 0, .bool false]) (by simp [results, Try.results20, go_sem]) rfl ⟨rfl, ?_⟩
  go_grown
theorem Cut_none {W0 w : World} {b : Nat} {m op : Int} {es : List Ent} (hL : At W0 w b m es) (ok : LogOk m es) (ho : m + es.length < op) :
    Calls Try.prog 11 #[.pointer (some ⟨b, 0, none⟩), .int .u64 op] w fun x w' => x = .returned (.int .i64 6) ∧ At W0 w' b m es := by
  obtain ⟨p, c, hB⟩ := hL.blk
  have HB := Lib.hid ((hB.alloc (.cells #[.pointer (some ⟨b, 0, none⟩)] 24)).alloc (.cells #[.int .u64 op] 22))
  have Ok := Lib.hid ok
  have HL := Lib.hid hL
  clear ok hB hL
  go_enter Try.func11, Try.ntmps11
  go_wp2_with fail
  refine (log_at_none HB.out Ok.out.low Ok.out.high Ok.out.len ho).mono ?_
  rintro x w1 ⟨rfl, rfl⟩
  go_wp2_with fail
  go_ret
  exact ⟨rfl, HL.out.below (((Below.refl _ _).alloc (Nat.le_refl _) _).alloc (by simp) _)⟩
theorem Cut_gone {W0 w : World} {b : Nat} {m op : Int} {es : List Ent} (hL : At W0 w b m es) (ok : LogOk m es) (ho : op < m) :
    Calls Try.prog 11 #[.pointer (some ⟨b, 0, none⟩), .int .u64 op] w fun x w' => x = .returned (.int .i64 32) ∧ At W0 w' b m es := by
  obtain ⟨p, c, hB⟩ := hL.blk
  have HB := Lib.hid ((hB.alloc (.cells #[.pointer (some ⟨b, 0, none⟩)] 24)).alloc (.cells #[.int .u64 op] 22))
  have Ok := Lib.hid ok
  have HL := Lib.hid hL
  clear ok hB hL
  go_enter Try.func11, Try.ntmps11
  go_wp2_with fail
  refine (log_at_gone HB.out Ok.out.low Ok.out.high Ok.out.len (by omega) (by omega)).mono ?_
  rintro x w1 ⟨rfl, rfl⟩
  go_wp2_with fail
  go_ret
  exact ⟨rfl, HL.out.below (((Below.refl _ _).alloc (Nat.le_refl _) _).alloc (by simp) _)⟩
theorem Trim_none {W0 w : World} {b : Nat} {m op : Int} {es : List Ent} (hL : At W0 w b m es) (ok : LogOk m es) (ho : m + es.length < op) :
    Calls Try.prog 12 #[.pointer (some ⟨b, 0, none⟩), .int .u64 op] w fun x w' => x = .returned (.int .i64 6) ∧ At W0 w' b m es := by
  obtain ⟨p, c, hB⟩ := hL.blk
  have HB := Lib.hid ((hB.alloc (.cells #[.pointer (some ⟨b, 0, none⟩)] 24)))
  have Ok := Lib.hid ok
  have HL := Lib.hid hL
  clear ok hB hL
  go_enter Try.func12, Try.ntmps12
  go_wp2_with fail
  refine (log_at_none HB.out Ok.out.low Ok.out.high Ok.out.len ho).mono ?_
  rintro x w1 ⟨rfl, rfl⟩
  go_wp2_with fail
  go_ret
  exact ⟨rfl, HL.out.below ((Below.refl _ _).alloc (Nat.le_refl _) _)⟩
theorem Trim_gone {W0 w : World} {b : Nat} {m op : Int} {es : List Ent} (hL : At W0 w b m es) (ok : LogOk m es) (ho : op < m) :
    Calls Try.prog 12 #[.pointer (some ⟨b, 0, none⟩), .int .u64 op] w fun x w' => x = .returned (.int .i64 32) ∧ At W0 w' b m es := by
  obtain ⟨p, c, hB⟩ := hL.blk
  have HB := Lib.hid ((hB.alloc (.cells #[.pointer (some ⟨b, 0, none⟩)] 24)))
  have Ok := Lib.hid ok
  have HL := Lib.hid hL
  clear ok hB hL
  go_enter Try.func12, Try.ntmps12
  go_wp2_with fail
  refine (log_at_gone HB.out Ok.out.low Ok.out.high Ok.out.len (by omega) (by omega)).mono ?_
  rintro x w1 ⟨rfl, rfl⟩
  go_wp2_with fail
  go_ret
  exact ⟨rfl, HL.out.below ((Below.refl _ _).alloc (Nat.le_refl _) _)⟩
end Go.Proofs.Ytmoifhoncanjjaa
