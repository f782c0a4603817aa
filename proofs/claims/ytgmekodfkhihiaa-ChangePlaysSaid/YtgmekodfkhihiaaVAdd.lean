/-
  Votes: the contract of Add. (Printed by wip/gen_vadd.py.)
-/
import Derived.Test.YtgmekodfkhihiaaVotes
namespace Go.Proofs.Ytgmekodfkhihiaa
open Go.RowKit Go.Maps
set_option linter.unusedSimpArgs false
set_option linter.unusedVariables false

theorem Holds.below_ : ∀ {l : List (Nat × Nat × Value)} {w w' : World}, Holds l w → Below w.heap.size w w' → Holds l w'
  | [], _, _, _, _ => trivial
  | (g, i, v) :: _, w, _, h, hb => ⟨(hb.cell (p := ⟨g, i, none⟩) (lt_of_cell (show w.cell? ⟨g, i, none⟩ = some v from h.1))).trans h.1, Holds.below_ h.2 hb⟩
def updT (kd : Int) (l t : List Bool) : List Bool := if kd = 1 then l else t
def updH (kd : Int) (l h : List Bool) : List Bool := if kd = 1 then h else l
theorem Ext.drew {M : Nat → Prop} {w w' : World} (h : Ext M w w') : Ext M w w'.drew := ⟨h.os, h.tape, h.output, h.size, h.block⟩
theorem Holds.ext : ∀ {l : List (Nat × Nat × Value)} {M : Nat → Prop} {w w' : World}, Holds l w → Ext M w w' → (∀ x ∈ l, ¬ M x.1) → Holds l w'
  | [], _, _, _, _, _, _ => trivial
  | (g, i, v) :: l, M, w, w', h, hb, hm => ⟨(cell_keep (hb.block g (lt_of_cell (show w.cell? ⟨g, i, none⟩ = some v from h.1)) (hm _ List.mem_cons_self))).trans h.1, Holds.ext h.2 hb fun x hx => hm x (List.mem_cons_of_mem _ hx)⟩
def HV (l : List (Nat × Nat × Value)) (g : Nat) (v : Int) (t h : List Bool) (w : World) : Prop := Holds l w ∧ VMap w g v t h
theorem seven {l : List Bool} (h : l.length = 7) : ∃ a b c d e f g, l = [a, b, c, d, e, f, g] := by
  match l, h with
  | [a, b, c, d, e, f, g], _ => exact ⟨a, b, c, d, e, f, g, rfl⟩
theorem Blk.setBool {w : World} {b k : Nat} {t : TypeId} {l : List Bool} (h : Blk w b t (l.map Value.bool).toArray) : Blk (w.setCell ⟨b, k, none⟩ (.bool true)) b t ((l.set k true).map Value.bool).toArray := by
  have h1 := h.set_ k (.bool true)
  rw [show ((l.set k true).map Value.bool).toArray = (l.map Value.bool).toArray.setIfInBounds k (.bool true) from by simp [List.map_set]]
  exact h1

set_option maxHeartbeats 6400000 in
set_option maxRecDepth 100000 in
theorem votes_Add {w : World} {vb g : Nat} {n v : Int} {t h : List Bool} (H : VAt w vb g n v t h) {kd : Int} (hkd : kd = 1 ∨ kd = 2) {k : Nat} (hk : (k : Int) < n) (hn : n ≤ 7) {l' : List Bool} (hl' : (sel kd t h).set k true = l') :
    Calls Try.prog 50 #[.pointer (some ⟨vb, 0, none⟩), mat kd v, .int .i64 (k : Int)] w fun x w' => x = .returned (.tuple #[.int .i64 (whoL l').length, .int .i64 0]) ∧
      VAt w' vb g n v (updT kd l' t) (updH kd l' h) ∧ Ext (fun j => j = g) w w' := by
  have hs7 : (sel kd t h).length = 7 := by unfold sel; split; exact H.m.lt; exact H.m.lh
  have hl7 : l'.length = 7 := by rw [← hl', List.length_set]; exact hs7
  obtain ⟨a0, a1, a2, a3, a4, a5, a6, hse⟩ := seven hs7
  obtain ⟨c0, c1, c2, c3, c4, c5, c6, rfl⟩ := seven hl7
  have hb1 := (Below.refl w.heap.size w).alloc (Nat.le_refl _) (.cells #[.int .i64 kd, .int .u64 v, .int .u64 0] 84)
  have hM := Blk.new w 84 #[.int .i64 kd, .int .u64 v, .int .u64 0]
  have HH := Lib.hid (H.below hb1)
  have HB := Lib.hid hb1
  have HM := Lib.hid hM
  have Hlt := Lib.hid (And.intro H.k.lt H.m.lt_)
  have Hse := Lib.hid hse
  have Hl' := Lib.hid hl'
  have hz0 : (w.alloc (.cells #[.int .i64 kd, .int .u64 v, .int .u64 0] 84)).heap.size = w.heap.size + 1 := World.size_alloc _ _
  have Hz0 := Lib.hid hz0
  obtain ⟨q0, q1, -⟩ := HH.out.k.c2
  have hd1 : decide ((k : Int) < 0) = false := by simp
  have hd2 : decide (n ≤ (k : Int)) = false := by simp; omega
  clear H hb1 hM hse hs7 hl7 hl' hz0
  unfold mat
  go_enter Try.func50, Try.ntmps50
  go_wp2_with fail
  generalize w.alloc (.cells #[.int .i64 kd, .int .u64 v, .int .u64 0] 84) = W at *
  refine (votes_none HH.out).mono ?_
  rintro x _ ⟨rfl, rfl⟩
  go_upto_region 5 with fail
  have hlk : ∀ w', VMap w' g v t h → (Instr.lookup 97 (.map (some g)) (.agg #[.int .i64 kd, .int .u64 v, .int .u64 0]) false).run Try.prog w' = .ok (.agg #[.bool a0, .bool a1, .bool a2, .bool a3, .bool a4, .bool a5, .bool a6]) w' := fun w' h' => by
    have h1 := h'.look hkd
    rw [Hse.out] at h1
    exact h1
  have Hlk := Lib.hid hlk
  clear hlk q0 q1
  have hSW : HV [(w.heap.size, 0, .int .i64 kd), (w.heap.size, 1, .int .u64 v), (w.heap.size, 2, .int .u64 0), (vb, 1, .map (some g))] g v t h W := ⟨⟨HM.out.cell 0, HM.out.cell 1, HM.out.cell 2, HH.out.k.cell 1, trivial⟩, HH.out.m⟩
  have HSW := Lib.hid hSW
  have hS : HV [(w.heap.size, 0, .int .i64 kd), (w.heap.size, 1, .int .u64 v), (w.heap.size, 2, .int .u64 0), (vb, 1, .map (some g))] g v t h W.drew := ⟨Holds.below_ hSW.1 (Below.refl _ _).drew, hSW.2.below (Below.refl _ _).drew⟩
  clear hSW
  refine begin_D (T := Hold0) [] (by kernel_rfl) hS (fun _ => trivial) ?_
  refine take_S (v := ?v0a) 0 rfl (by kernel_rfl) (by kernel_rfl) (by kernel_rfl) (by kernel_rfl) (fun _ _ _ h => h) hS (fun _ => trivial) rfl (fun w' hq => ?h0a) ?_
  case h0a => go_simp; try with_reducible rfl
  try simp only [Act.put, List.setIfInBounds_toArray, List.set_cons_zero, List.set_cons_succ, List.getElem_toArray, List.getElem_cons_succ, List.getElem_cons_zero]
  refine take_S (v := ?v1a) 1 rfl (by kernel_rfl) (by kernel_rfl) (by kernel_rfl) (by kernel_rfl) (fun _ _ _ h => h) hS (fun _ => trivial) rfl (fun w' hq => ?h1a) ?_
  case h1a => go_simp; try with_reducible rfl
  try simp only [Act.put, List.setIfInBounds_toArray, List.set_cons_zero, List.set_cons_succ, List.getElem_toArray, List.getElem_cons_succ, List.getElem_cons_zero]
  refine take_S (v := ?v2a) 2 rfl (by kernel_rfl) (by kernel_rfl) (by kernel_rfl) (by kernel_rfl) (fun _ _ _ h => h) hS (fun _ => trivial) rfl (fun w' hq => ?h2a) ?_
  case h2a => go_simp; try with_reducible rfl
  try simp only [Act.put, List.setIfInBounds_toArray, List.set_cons_zero, List.set_cons_succ, List.getElem_toArray, List.getElem_cons_succ, List.getElem_cons_zero]
  refine take_S (v := ?v3a) 3 rfl (by kernel_rfl) (by kernel_rfl) (by kernel_rfl) (by kernel_rfl) (fun _ _ _ h => h) hS (fun _ => trivial) rfl (fun w' hq => ?h3a) ?_
  case h3a => obtain ⟨⟨q0, q1, q2, q3, -⟩, qv⟩ := hq; change _ = some _ at q0; change _ = some _ at q1; change _ = some _ at q2; change _ = some _ at q3; go_simp; try with_reducible rfl
  try simp only [Act.put, List.setIfInBounds_toArray, List.set_cons_zero, List.set_cons_succ, List.getElem_toArray, List.getElem_cons_succ, List.getElem_cons_zero]
  refine take_S (v := ?v4a) 4 rfl (by kernel_rfl) (by kernel_rfl) (by kernel_rfl) (by kernel_rfl) (fun _ _ _ h => h) hS (fun _ => trivial) rfl (fun w' hq => ?h4a) ?_
  case h4a => obtain ⟨⟨q0, q1, q2, q3, -⟩, qv⟩ := hq; change _ = some _ at q0; change _ = some _ at q1; change _ = some _ at q2; change _ = some _ at q3; go_simp; try with_reducible rfl
  try simp only [Act.put, List.setIfInBounds_toArray, List.set_cons_zero, List.set_cons_succ, List.getElem_toArray, List.getElem_cons_succ, List.getElem_cons_zero]
  refine take_S (v := ?v5a) 5 rfl (by kernel_rfl) (by kernel_rfl) (by kernel_rfl) (by kernel_rfl) (fun _ _ _ h => h) hS (fun _ => trivial) rfl (fun w' hq => ?h5a) ?_
  case h5a => obtain ⟨-, qv⟩ := hq; have hlk := Hlk.out w' qv; go_simp; try with_reducible rfl
  try simp only [Act.put, List.setIfInBounds_toArray, List.set_cons_zero, List.set_cons_succ, List.getElem_toArray, List.getElem_cons_succ, List.getElem_cons_zero]
  refine one_D 6 rfl (by kernel_rfl) (fun KQ hK => ?_)
  go_simp
  have hbA := (Below.refl W.heap.size W).alloc (Nat.le_refl _) (.cells #[.bool false, .bool false, .bool false, .bool false, .bool false, .bool false, .bool false] 101)
  have kA := Blk.new W 101 #[.bool false, .bool false, .bool false, .bool false, .bool false, .bool false, .bool false]
  have hS1 : HV [(w.heap.size, 0, .int .i64 kd), (w.heap.size, 1, .int .u64 v), (w.heap.size, 2, .int .u64 0), (vb, 1, .map (some g))] g v t h (W.alloc (.cells #[.bool false, .bool false, .bool false, .bool false, .bool false, .bool false, .bool false] 101)).drew := ⟨Holds.below_ HSW.out.1 hbA.drew, HSW.out.2.below hbA.drew⟩
  refine hK.out _ _ hS1 (fun _ => trivial) ?_
  clear hK hS hbA kA
  refine one_D 7 rfl (by kernel_rfl) (fun KQ hK => ?_)
  go_simp
  have hbA := (Below.refl W.heap.size W).alloc (Nat.le_refl _) (.cells #[.bool a0, .bool a1, .bool a2, .bool a3, .bool a4, .bool a5, .bool a6] 101)
  have kA := Blk.new W 101 #[.bool a0, .bool a1, .bool a2, .bool a3, .bool a4, .bool a5, .bool a6]
  have hS2 : HV [(w.heap.size, 0, .int .i64 kd), (w.heap.size, 1, .int .u64 v), (w.heap.size, 2, .int .u64 0), (vb, 1, .map (some g))] g v t h (W.alloc (.cells #[.bool a0, .bool a1, .bool a2, .bool a3, .bool a4, .bool a5, .bool a6] 101)).drew := ⟨Holds.below_ HSW.out.1 hbA.drew, HSW.out.2.below hbA.drew⟩
  have HbA := Lib.hid hbA.drew
  have KA := Lib.hid kA.drew
  refine hK.out _ _ hS2 (fun _ => trivial) ?_
  clear hK hS1 hbA kA
  refine done_D (by kernel_rfl) ?_ _
  have HS2 := Lib.hid hS2
  clear hS2
  generalize (W.alloc (.cells #[.bool a0, .bool a1, .bool a2, .bool a3, .bool a4, .bool a5, .bool a6] 101)).drew = W2 at *
  have hfr := KA.out.frozen k
  have hk7 : (k : Int) < 7 := by omega
  have hzB := KA.out.lt
  obtain ⟨xk, hxk⟩ : ∃ x, W2.cell? ⟨W.heap.size, k, none⟩ = some x := ⟨_, (KA.out.cell k).trans (Array.getElem?_eq_getElem (by simp; omega))⟩
  have hsB : Blk (W2.setCell ⟨W.heap.size, k, none⟩ (.bool true)) W.heap.size 101 (([c0, c1, c2, c3, c4, c5, c6] : List Bool).map Value.bool).toArray := by
    have h1 := Blk.setBool (k := k) (show Blk W2 W.heap.size 101 (([a0, a1, a2, a3, a4, a5, a6] : List Bool).map Value.bool).toArray from KA.out)
    rw [← Hse.out, Hl'.out] at h1
    exact h1
  have HsB := Lib.hid hsB
  clear hsB
  have HltB := Lib.hid (show w.heap.size < W.heap.size ∧ vb < W.heap.size ∧ g < W.heap.size ∧ vb ≠ g from ⟨HM.out.lt, HH.out.k.lt, HH.out.m.lt_, HH.out.ne⟩)
  have HX2 := Lib.hid (show Below w.heap.size w W2 from HB.out.trans (HbA.out.mono HB.out.size))
  have HVA2 := Lib.hid (show VAt W2 vb g n v t h from HH.out.below HbA.out)
  generalize W.heap.size = B at *
  go_upto_region 7 with fail
  clear hfr hk7 hzB hxk
  have hE3 : Ext (fun j => j = B) W2 (W2.setCell ⟨B, k, none⟩ (.bool true)).drew := Ext.drew ((Ext.refl (fun j => j = B) W2).setCell (p := ⟨B, k, none⟩) (.inl rfl) _)
  have hV3 : VAt (W2.setCell ⟨B, k, none⟩ (.bool true)).drew vb g n v t h := HVA2.out.ext hE3 (by have := HltB.out; omega) (by have := HltB.out; omega)
  have HV3 := Lib.hid hV3
  have hX3 : Ext (fun j => j = g) w (W2.setCell ⟨B, k, none⟩ (.bool true)).drew := Ext.drew ((Ext.of_below (fun j => j = g) HX2.out).setCell (p := ⟨B, k, none⟩) (.inr (by have := HltB.out; show w.heap.size ≤ B; omega)) _)
  have HX3 := Lib.hid hX3
  have hS3 : Holds [(w.heap.size, 0, .int .i64 kd), (w.heap.size, 1, .int .u64 v), (w.heap.size, 2, .int .u64 0), (vb, 1, .map (some g)), (B, 0, .bool c0), (B, 1, .bool c1), (B, 2, .bool c2), (B, 3, .bool c3), (B, 4, .bool c4), (B, 5, .bool c5), (B, 6, .bool c6)] (W2.setCell ⟨B, k, none⟩ (.bool true)).drew := by
    have hb := HsB.out
    have hm := HS2.out.1.ext (l := [(w.heap.size, 0, .int .i64 kd), (w.heap.size, 1, .int .u64 v), (w.heap.size, 2, .int .u64 0), (vb, 1, .map (some g))]) hE3 (by intro x hx; simp at hx; have := HltB.out; rcases hx with rfl | rfl | rfl | rfl <;> (show ¬ _ = B; omega))
    exact ⟨hm.1, hm.2.1, hm.2.2.1, hm.2.2.2.1, hb.cell 0, hb.cell 1, hb.cell 2, hb.cell 3, hb.cell 4, hb.cell 5, hb.cell 6, trivial⟩
  clear hE3 hV3 hX3
  generalize W2.setCell ⟨B, k, none⟩ (.bool true) = W3 at *
  refine begin_D (T := Hold0) [] (by kernel_rfl) hS3 (fun _ => trivial) ?_
  refine take_S (v := ?v0b) 0 rfl (by kernel_rfl) (by kernel_rfl) (by kernel_rfl) (by kernel_rfl) (fun _ _ _ h => h) hS3 (fun _ => trivial) rfl (fun w' hq => ?h0b) ?_
  case h0b => go_simp; try with_reducible rfl
  try simp only [Act.put, List.setIfInBounds_toArray, List.set_cons_zero, List.set_cons_succ, List.getElem_toArray, List.getElem_cons_succ, List.getElem_cons_zero]
  refine take_S (v := ?v1b) 1 rfl (by kernel_rfl) (by kernel_rfl) (by kernel_rfl) (by kernel_rfl) (fun _ _ _ h => h) hS3 (fun _ => trivial) rfl (fun w' hq => ?h1b) ?_
  case h1b => go_simp; try with_reducible rfl
  try simp only [Act.put, List.setIfInBounds_toArray, List.set_cons_zero, List.set_cons_succ, List.getElem_toArray, List.getElem_cons_succ, List.getElem_cons_zero]
  refine take_S (v := ?v2b) 2 rfl (by kernel_rfl) (by kernel_rfl) (by kernel_rfl) (by kernel_rfl) (fun _ _ _ h => h) hS3 (fun _ => trivial) rfl (fun w' hq => ?h2b) ?_
  case h2b => go_simp; try with_reducible rfl
  try simp only [Act.put, List.setIfInBounds_toArray, List.set_cons_zero, List.set_cons_succ, List.getElem_toArray, List.getElem_cons_succ, List.getElem_cons_zero]
  refine take_S (v := ?v3b) 3 rfl (by kernel_rfl) (by kernel_rfl) (by kernel_rfl) (by kernel_rfl) (fun _ _ _ h => h) hS3 (fun _ => trivial) rfl (fun w' hq => ?h3b) ?_
  case h3b => obtain ⟨q0, q1, q2, q3, q4, q5, q6, q7, q8, q9, q10, -⟩ := hq; change _ = some _ at q0; change _ = some _ at q1; change _ = some _ at q2; change _ = some _ at q3; change _ = some _ at q4; change _ = some _ at q5; change _ = some _ at q6; change _ = some _ at q7; change _ = some _ at q8; change _ = some _ at q9; change _ = some _ at q10; go_simp; try with_reducible rfl
  try simp only [Act.put, List.setIfInBounds_toArray, List.set_cons_zero, List.set_cons_succ, List.getElem_toArray, List.getElem_cons_succ, List.getElem_cons_zero]
  refine take_S (v := ?v4b) 4 rfl (by kernel_rfl) (by kernel_rfl) (by kernel_rfl) (by kernel_rfl) (fun _ _ _ h => h) hS3 (fun _ => trivial) rfl (fun w' hq => ?h4b) ?_
  case h4b => obtain ⟨q0, q1, q2, q3, q4, q5, q6, q7, q8, q9, q10, -⟩ := hq; change _ = some _ at q0; change _ = some _ at q1; change _ = some _ at q2; change _ = some _ at q3; change _ = some _ at q4; change _ = some _ at q5; change _ = some _ at q6; change _ = some _ at q7; change _ = some _ at q8; change _ = some _ at q9; change _ = some _ at q10; go_simp; try with_reducible rfl
  try simp only [Act.put, List.setIfInBounds_toArray, List.set_cons_zero, List.set_cons_succ, List.getElem_toArray, List.getElem_cons_succ, List.getElem_cons_zero]
  refine take_S (v := ?v5b) 5 rfl (by kernel_rfl) (by kernel_rfl) (by kernel_rfl) (by kernel_rfl) (fun _ _ _ h => h) hS3 (fun _ => trivial) rfl (fun w' hq => ?h5b) ?_
  case h5b => obtain ⟨q0, q1, q2, q3, q4, q5, q6, q7, q8, q9, q10, -⟩ := hq; change _ = some _ at q0; change _ = some _ at q1; change _ = some _ at q2; change _ = some _ at q3; change _ = some _ at q4; change _ = some _ at q5; change _ = some _ at q6; change _ = some _ at q7; change _ = some _ at q8; change _ = some _ at q9; change _ = some _ at q10; go_simp; try with_reducible rfl
  try simp only [Act.put, List.setIfInBounds_toArray, List.set_cons_zero, List.set_cons_succ, List.getElem_toArray, List.getElem_cons_succ, List.getElem_cons_zero]
  obtain ⟨w5, hrun, hV5, hg5⟩ := HV3.out.m.put hkd (l := [c0, c1, c2, c3, c4, c5, c6]) rfl
  have hrun' : (Instr.mapUpdate 97 (.map (some g)) (.agg #[.int .i64 kd, .int .u64 v, .int .u64 0]) (.agg #[.bool c0, .bool c1, .bool c2, .bool c3, .bool c4, .bool c5, .bool c6])).run Try.prog W3.drew = .ok () w5 := hrun
  have hE5 : Ext (fun j => j = g) W3.drew w5 := ⟨hg5.os, hg5.tape, hg5.output, hg5.size, fun j hj hn => hg5.block j hj (fun e => hn (by injection e with e))⟩
  have HE5 := Lib.hid hE5
  have HV5 := Lib.hid (show VAt w5 vb g n v (updT kd [c0, c1, c2, c3, c4, c5, c6] t) (updH kd [c0, c1, c2, c3, c4, c5, c6] h) from ⟨HV3.out.k.ext hE5 (by have := HltB.out; omega), hV5⟩)
  have hS5 := hS3.ext hE5 (by intro x hx; simp at hx; have := HltB.out; have := Hlt.out; rcases hx with rfl | rfl | rfl | rfl | rfl | rfl | rfl | rfl | rfl | rfl | rfl <;> (show ¬ _ = g; omega))
  clear hrun hV5 hg5 hE5
  refine one_D 6 rfl (by kernel_rfl) (fun KQ hK => ?_)
  go_simp
  refine hK.out _ _ hS5 (fun _ => trivial) ?_
  clear hK hS3 hrun'
  refine done_D (by kernel_rfl) ?_ _
  obtain ⟨q0, q1, q2, -⟩ := hS5
  change _ = some _ at q0
  change _ = some _ at q1
  change _ = some _ at q2
  go_wp2_with fail
  refine (votes_Count (kd := kd) HV5.out hkd).mono ?_
  rintro x w6 ⟨rfl, hb⟩
  have hsel : sel kd (updT kd [c0, c1, c2, c3, c4, c5, c6] t) (updH kd [c0, c1, c2, c3, c4, c5, c6] h) = [c0, c1, c2, c3, c4, c5, c6] := by
    unfold sel updT updH
    rcases hkd with rfl | rfl <;> rfl
  rw [hsel]
  have HF := Lib.hid (HV5.out.below hb)
  have HXf := Lib.hid ((HX3.out.trans HE5.out).trans (Ext.of_below _ hb))
  clear hb hsel q0 q1 q2
  go_wp2_with fail
  go_ret2
  exact ⟨rfl, HF.out, HXf.out⟩
end Go.Proofs.Ytgmekodfkhihiaa
