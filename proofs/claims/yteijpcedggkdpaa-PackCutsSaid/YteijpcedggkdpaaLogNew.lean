/-
  New, Copy, Same, All: the contracts.
-/
import Derived.Test.YteijpcedggkdpaaLog
import Derived.Test.YteijpcedggkdpaaOrd
namespace Go.Proofs.Yteijpcedggkdpaa
open Go.RowKit
set_option linter.unusedSimpArgs false

/-- A log in new memory. -/
def NewLog (w : World) (b : Nat) (m : Int) (es : List Ent) (w' : World) : Prop := LogAt w' (fun k => w.heap.size ≤ k ∧ k < b) b m es ∧ w.heap.size ≤ b ∧ b < w'.heap.size ∧ Below w.heap.size w w'

theorem NewLog.mk {w w1 : World} {m : Int} {es : List Ent} {p : Option Addr} {c : Nat} (hb : Below w.heap.size w w1) (hE : EntsOwn w1 w.heap.size (.slice p es.length c) es) :
    NewLog w w1.heap.size m es (w1.alloc (.cells #[.int .u64 m, .slice p es.length c, .bool true] 56)) := by
  refine ⟨⟨p, c, Blk.new _ _ _, ?_, by omega⟩, hb.size, by simp, hb.alloc hb.size _⟩
  exact (EntsOwn.rd hE).keep (fun k hk _ => Below.heap_alloc _ _ _ hk) (fun k hk _ => hk)

set_option maxHeartbeats 800000 in
theorem log_New {w : World} {S : Nat → Prop} {m : Int} {v : Value} {es : List Ent} (h : EntsRd w S v es) (hf : Fits es) (hn : es.length ≤ 64) (hm : m ≤ 1099511627776) :
    Calls Try.prog 5 #[.int .u64 m, v] w fun x w' => ∃ b, x = .returned (.tuple #[.pointer (some ⟨b, 0, none⟩), .int .i64 0]) ∧ NewLog w b m es w' := by
  have hv := h
  obtain ⟨cs, hr, -⟩ := hv
  obtain ⟨p, c, rfl⟩ := Rd.slice hr
  have H := Lib.hid h
  have Hf := Lib.hid hf
  clear hr h hf
  go_enter Try.func5, Try.ntmps5
  go_wp2_with fail
  refine (owns_any H.out Hf.out (by omega)).mono ?_
  rintro x w1 ⟨p1, c1, rfl, ho, hb⟩
  have Ho := Lib.hid ho
  have Hb := Lib.hid hb
  clear ho hb
  go_wp2_with fail
  go_ret2
  exact ⟨w1.heap.size, rfl, NewLog.mk Hb.out Ho.out⟩

theorem log_New_arg {w : World} {m : Int} {v : Value} (hm : 1099511627776 < m) :
    Calls Try.prog 5 #[.int .u64 m, v] w fun x w' => x = .returned (.tuple #[.pointer none, .int .i64 1]) ∧ w = w' := by
  go_enter Try.func5, Try.ntmps5
  go_wp2_with fail
  go_ret2
  exact ⟨rfl, rfl⟩

theorem log_New_full {w : World} {m : Int} {p : Option Addr} {n c : Nat} (hn : 64 < n) (hm : m ≤ 1099511627776) :
    Calls Try.prog 5 #[.int .u64 m, .slice p n c] w fun x w' => x = .returned (.tuple #[.pointer none, .int .i64 7]) ∧ w = w' := by
  go_enter Try.func5, Try.ntmps5
  go_wp2_with fail
  go_ret2
  exact ⟨rfl, rfl⟩

set_option maxHeartbeats 800000 in
theorem log_Copy {w : World} {S : Nat → Prop} {b : Nat} {m : Int} {es : List Ent} (hL : LogAt w S b m es) (ok : LogOk m es) :
    Calls Try.prog 17 #[.pointer (some ⟨b, 0, none⟩)] w fun x w' => ∃ b', x = .returned (.pointer (some ⟨b', 0, none⟩)) ∧ NewLog w b' m es w' := by
  obtain ⟨p, c, hB, hE, -⟩ := hL
  obtain ⟨a0, a1, a2, f0, f1, f2, hz⟩ := hB.c3
  have HE := Lib.hid hE
  have HB := Lib.hid hB
  have Ok := Lib.hid ok
  clear hE hB ok
  go_enter Try.func17, Try.ntmps17
  go_wp2_with fail
  refine (log_none HB.out).mono ?_
  rintro x w' ⟨rfl, rfl⟩
  go_wp2_with fail
  have hS : Hold2 (b, 0, .int .u64 m) (b, 1, .slice p es.length c) w.drew := ⟨a0, a1⟩
  have hT : Hold0 w.drew := trivial
  refine begin_D [] (by kernel_rfl) hS (fun _ => hT) ?_
  refine take_S (v := ?v0) 0 rfl (by kernel_rfl) (by kernel_rfl) (by kernel_rfl) (by kernel_rfl) (fun _ _ _ h => h) hS (fun _ => hT) rfl (fun w' hq => ?h0) ?_
  case h0 => obtain ⟨hq0, hq1⟩ := hq; change _ = some _ at hq0; change _ = some _ at hq1; go_simp; try with_reducible rfl
  try simp only [Act.put, List.setIfInBounds_toArray, List.set_cons_zero, List.set_cons_succ, List.getElem_toArray, List.getElem_cons_succ, List.getElem_cons_zero]
  refine take_S (v := ?v1) 1 rfl (by kernel_rfl) (by kernel_rfl) (by kernel_rfl) (by kernel_rfl) (fun _ _ _ h => h) hS (fun _ => hT) rfl (fun w' hq => ?h1) ?_
  case h1 => obtain ⟨hq0, hq1⟩ := hq; change _ = some _ at hq0; change _ = some _ at hq1; go_simp; try with_reducible rfl
  try simp only [Act.put, List.setIfInBounds_toArray, List.set_cons_zero, List.set_cons_succ, List.getElem_toArray, List.getElem_cons_succ, List.getElem_cons_zero]
  refine take_S (v := ?v2) 2 rfl (by kernel_rfl) (by kernel_rfl) (by kernel_rfl) (by kernel_rfl) (fun _ _ _ h => h) hS (fun _ => hT) rfl (fun w' hq => ?h2) ?_
  case h2 => obtain ⟨hq0, hq1⟩ := hq; change _ = some _ at hq0; change _ = some _ at hq1; go_simp; try with_reducible rfl
  try simp only [Act.put, List.setIfInBounds_toArray, List.set_cons_zero, List.set_cons_succ, List.getElem_toArray, List.getElem_cons_succ, List.getElem_cons_zero]
  refine take_S (v := ?v3) 3 rfl (by kernel_rfl) (by kernel_rfl) (by kernel_rfl) (by kernel_rfl) (fun _ _ _ h => h) hS (fun _ => hT) rfl (fun w' hq => ?h3) ?_
  case h3 => obtain ⟨hq0, hq1⟩ := hq; change _ = some _ at hq0; change _ = some _ at hq1; go_simp; try with_reducible rfl
  try simp only [Act.put, List.setIfInBounds_toArray, List.set_cons_zero, List.set_cons_succ, List.getElem_toArray, List.getElem_cons_succ, List.getElem_cons_zero]
  refine take_S (v := ?v4) 4 rfl (by kernel_rfl) (by kernel_rfl) (by kernel_rfl) (by kernel_rfl) (fun _ _ _ h => h) hS (fun _ => hT) rfl (fun w' hq => ?h4) ?_
  case h4 => obtain ⟨hq0, hq1⟩ := hq; change _ = some _ at hq0; change _ = some _ at hq1; go_simp; try with_reducible rfl
  try simp only [Act.put, List.setIfInBounds_toArray, List.set_cons_zero, List.set_cons_succ, List.getElem_toArray, List.getElem_cons_succ, List.getElem_cons_zero]
  refine take_S (v := ?v5) 5 rfl (by kernel_rfl) (by kernel_rfl) (by kernel_rfl) (by kernel_rfl) (fun _ _ _ h => h) hS (fun _ => hT) rfl (fun w' hq => ?h5) ?_
  case h5 => obtain ⟨hq0, hq1⟩ := hq; change _ = some _ at hq0; change _ = some _ at hq1; go_simp; try with_reducible rfl
  try simp only [Act.put, List.setIfInBounds_toArray, List.set_cons_zero, List.set_cons_succ, List.getElem_toArray, List.getElem_cons_succ, List.getElem_cons_zero]
  refine take_S (v := ?v6) 6 rfl (by kernel_rfl) (by kernel_rfl) (by kernel_rfl) (by kernel_rfl) (fun _ _ _ h => h) hS (fun _ => hT) rfl (fun w' hq => ?h6) ?_
  case h6 => obtain ⟨hq0, hq1⟩ := hq; change _ = some _ at hq0; change _ = some _ at hq1; go_simp; try with_reducible rfl
  try simp only [Act.put, List.setIfInBounds_toArray, List.set_cons_zero, List.set_cons_succ, List.getElem_toArray, List.getElem_cons_succ, List.getElem_cons_zero]
  refine take_S (v := ?v7) 7 rfl (by kernel_rfl) (by kernel_rfl) (by kernel_rfl) (by kernel_rfl) (fun _ _ _ h => h) hS (fun _ => hT) rfl (fun w' hq => ?h7) ?_
  case h7 => obtain ⟨hq0, hq1⟩ := hq; change _ = some _ at hq0; change _ = some _ at hq1; go_simp; try with_reducible rfl
  try simp only [Act.put, List.setIfInBounds_toArray, List.set_cons_zero, List.set_cons_succ, List.getElem_toArray, List.getElem_cons_succ, List.getElem_cons_zero]
  refine one_D 8 rfl (by kernel_rfl) (fun K hK => ?_)
  go_simp
  refine (owns_any (S := S) (EntsRd.below HE.out (Below.refl _ _).drew) Ok.out.fits (Nat.le_trans Ok.out.len (by decide))).mono ?_
  rintro x w1 ⟨p1, c1, rfl, ho, hb⟩
  have hS1 : Hold2 (b, 0, .int .u64 m) (b, 1, .slice p es.length c) w1 := ⟨(hb.cell (p := ⟨b, 0, none⟩) hz).trans a0, (hb.cell (p := ⟨b, 1, none⟩) hz).trans a1⟩
  have hT1 : Hold0 w1 := trivial
  have Ho := Lib.hid ho
  have Hb := Lib.hid hb
  clear ho hb hS hT
  refine hK.out _ _ hS1 (fun _ => hT1) ?_
  clear hK
  refine take_S (v := ?v9) 9 rfl (by kernel_rfl) (by kernel_rfl) (by kernel_rfl) (by kernel_rfl) (fun _ _ _ h => h) hS1 (fun _ => hT1) rfl (fun w' hq => ?h9) ?_
  case h9 => obtain ⟨hq0, hq1⟩ := hq; change _ = some _ at hq0; change _ = some _ at hq1; go_simp; try with_reducible rfl
  try simp only [Act.put, List.setIfInBounds_toArray, List.set_cons_zero, List.set_cons_succ, List.getElem_toArray, List.getElem_cons_succ, List.getElem_cons_zero]
  refine one_D 10 rfl (by kernel_rfl) (fun K hK => ?_)
  go_simp
  have hS2 : Hold2 (b, 0, .int .u64 m) (b, 1, .slice p es.length c) (w1.alloc (.cells #[.int .u64 m, .slice p1 es.length c1, .bool true] 56)) :=
    ⟨by have := hS1.1; unfold Hold1 at *; rw [World.cell?_alloc_lt _ _ _ (lt_of_cell this)]; exact this, by have := hS1.2; unfold Hold1 at *; rw [World.cell?_alloc_lt _ _ _ (lt_of_cell this)]; exact this⟩
  refine hK.out _ _ hS2 (fun _ => trivial) ?_
  clear hK hS1 hT1
  refine take_S (v := ?v11) 11 rfl (by kernel_rfl) (by kernel_rfl) (by kernel_rfl) (by kernel_rfl) (fun _ _ _ h => h) hS2 (fun _ => trivial) rfl (fun w' hq => ?h11) ?_
  case h11 => obtain ⟨hq0, hq1⟩ := hq; change _ = some _ at hq0; change _ = some _ at hq1; go_simp; try with_reducible rfl
  try simp only [Act.put, List.setIfInBounds_toArray, List.set_cons_zero, List.set_cons_succ, List.getElem_toArray, List.getElem_cons_succ, List.getElem_cons_zero]
  refine done_D (by kernel_rfl) ?_ _
  go_wp2_with fail
  go_ret
  exact ⟨w1.heap.size, rfl, NewLog.mk ((Below.refl w.heap.size w).drew.trans Hb.out) Ho.out⟩
end Go.Proofs.Yteijpcedggkdpaa
