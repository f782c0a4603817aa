/-
  copybooklaw15.Few: its contract. (Printed by wip/gen_few15.py.)
-/
import Derived.Test.YtciojggkcmdjiaaDoorFewL15
namespace Go.Proofs.YtciojggkcmdjiaaDoor
open Go.RowKit
set_option linter.unusedSimpArgs false
set_option linter.unusedVariables false

/-- An answer's value and what it reads as. -/
def AnV (w : World) (S : Nat → Prop) (v : Value) (a : An) : Prop := ∃ p c q d s e, v = .agg #[.int .i64 a.err, .int .u32 a.doc, .int .u64 a.rev, .bool a.whole, .slice p a.text.length c, .slice q a.ops.length d, .slice s a.seats.length e] ∧
  ChsRd w S (.slice p a.text.length c) a.text ∧ OpsRd w S (.slice q a.ops.length d) a.ops ∧ StsRd w S (.slice s a.seats.length e) a.seats
theorem AnV.below {w w' : World} {S : Nat → Prop} {v : Value} {a : An} (h : AnV w S v a) (hb : Below w.heap.size w w') : AnV w' S v a := by
  obtain ⟨p, c, q, d, s, e, hv, h1, h2, h3⟩ := h
  exact ⟨p, c, q, d, s, e, hv, h1.below hb, h2.below hb, h3.below hb⟩
theorem AnV.into {w : World} {S S' : Nat → Prop} {v : Value} {a : An} (h : AnV w S v a) (hS : ∀ j, S j → S' j) : AnV w S' v a := by
  obtain ⟨p, c, q, d, s, e, hv, h1, h2, h3⟩ := h
  exact ⟨p, c, q, d, s, e, hv, h1.into hS, h2.into hS, h3.into hS⟩
set_option maxHeartbeats 12800000 in
set_option maxRecDepth 100000 in
theorem law_Few {w : World} {S0 : Nat → Prop} {v : Value} {a : An} (h : AnV w S0 v a) :
    Calls Tryd.prog 10 #[v] w fun x w' => ∃ v', x = .returned v' ∧ AnV w' (fun j => S0 j ∨ (w.heap.size ≤ j ∧ j < w'.heap.size)) v' (fewA a) ∧ Below w.heap.size w w' := by
  obtain ⟨p, c, q, d, s, e, rfl, ht, ho, hs⟩ := h
  obtain ⟨a0, a1, a2, a3, at_, ao, as_⟩ := a
  simp only at ht ho hs ⊢
  obtain ⟨t, htt⟩ : ∃ x, at_.take 300 = x := ⟨_, rfl⟩
  obtain ⟨o, hoo⟩ : ∃ x, ao.take 20 = x := ⟨_, rfl⟩
  obtain ⟨ss, hss⟩ : ∃ x, as_.take 20 = x := ⟨_, rfl⟩
  obtain ⟨hT, ht3, htl⟩ := ht.front_ htt
  obtain ⟨hO, ho2, hol⟩ := ho.front_ hoo
  obtain ⟨hS, hs2, hsl⟩ := hs.front_ hss
  have hcap1 : at_.length ≤ c ∧ c ≤ maxLen := by obtain ⟨_, _, _, h, h1, h2, _⟩ := ht; injection h with _ _ h; subst h; exact ⟨h1, h2⟩
  have hcap2 : ao.length ≤ d ∧ d ≤ maxLen := by obtain ⟨_, ⟨_, _, _, h, h1, h2, _⟩, _⟩ := ho; injection h with _ _ h; subst h; exact ⟨h1, h2⟩
  have hcap3 : as_.length ≤ e ∧ e ≤ maxLen := by obtain ⟨_, ⟨_, _, _, h, h1, h2, _⟩, _⟩ := hs; injection h with _ _ h; subst h; exact ⟨h1, h2⟩
  unfold maxLen at hcap1 hcap2 hcap3
  have Hfew := Lib.hid (show fewA ⟨a0, a1, a2, a3, at_, ao, as_⟩ = ⟨a0, a1, a2, a3, t, o.map cutO, ss⟩ by unfold fewA; simp only [htt, hoo, hss])
  have q1 : (if (300 : Int) < (at_.length : Int) then (300 : Int) else (at_.length : Int)) = (t.length : Int) := by rw [← htt, List.length_take]; split <;> omega
  have q2 : (if (20 : Int) < (ao.length : Int) then (20 : Int) else (ao.length : Int)) = (o.length : Int) := by rw [← hoo, List.length_take]; split <;> omega
  have q3 : (if (20 : Int) < (as_.length : Int) then (20 : Int) else (as_.length : Int)) = (ss.length : Int) := by rw [← hss, List.length_take]; split <;> omega
  have b1 : (t.length : Int) ≤ (c : Int) := by omega
  have b2 : (o.length : Int) ≤ (d : Int) := by omega
  have b3 : (ss.length : Int) ≤ (e : Int) := by omega
  have hb1 := (Below.refl w.heap.size w).alloc (Nat.le_refl _) (.cells #[.int .i64 a0, .int .u32 a1, .int .u64 a2, .bool a3, .slice p at_.length c, .slice q ao.length d, .slice s as_.length e] 41)
  have hb2 := hb1.alloc hb1.size (.cells #[.int .i64 0, .int .u32 0, .int .u64 0, .bool false, .slice none 0 0, .slice none 0 0, .slice none 0 0] 41)
  have hb12 := (Below.refl (w.alloc (.cells #[.int .i64 a0, .int .u32 a1, .int .u64 a2, .bool a3, .slice p at_.length c, .slice q ao.length d, .slice s as_.length e] 41)).heap.size (w.alloc (.cells #[.int .i64 a0, .int .u32 a1, .int .u64 a2, .bool a3, .slice p at_.length c, .slice q ao.length d, .slice s as_.length e] 41))).alloc (Nat.le_refl _) (.cells #[.int .i64 0, .int .u32 0, .int .u64 0, .bool false, .slice none 0 0, .slice none 0 0, .slice none 0 0] 41)
  have HK := Lib.hid ((Blk.new w 41 #[.int .i64 a0, .int .u32 a1, .int .u64 a2, .bool a3, .slice p at_.length c, .slice q ao.length d, .slice s as_.length e]).below hb12)
  have HL0 := Blk.new (w.alloc (.cells #[.int .i64 a0, .int .u32 a1, .int .u64 a2, .bool a3, .slice p at_.length c, .slice q ao.length d, .slice s as_.length e] 41)) 41 #[.int .i64 0, .int .u32 0, .int .u64 0, .bool false, .slice none 0 0, .slice none 0 0, .slice none 0 0]
  rw [World.size_alloc w] at HL0
  have HL := Lib.hid HL0
  have HB := Lib.hid hb2
  have HT := Lib.hid hT
  have HO := Lib.hid hO
  have HS := Lib.hid hS
  have Ho2 := Lib.hid ho2
  clear ht ho hs hT hO hS htt hoo hss hb1 hb2 hb12 HL0
  go_enter Tryd.func10, Tryd.ntmps10
  go_upto_region 1 with fail
  generalize (w.alloc (.cells #[.int .i64 a0, .int .u32 a1, .int .u64 a2, .bool a3, .slice p at_.length c, .slice q ao.length d, .slice s as_.length e] 41)).alloc (.cells #[.int .i64 0, .int .u32 0, .int .u64 0, .bool false, .slice none 0 0, .slice none 0 0, .slice none 0 0] 41) = W2 at *
  have hK := HK.out
  have m0 := hK.cell 0
  have m1 := hK.cell 1
  have m2 := hK.cell 2
  have m3 := hK.cell 3
  have m4 := hK.cell 4
  have m5 := hK.cell 5
  have m6 := hK.cell 6
  have hz := hK.lt
  simp only [List.getElem?_toArray, List.getElem?_cons_succ, List.getElem?_cons_zero] at m0 m1 m2 m3 m4 m5 m6
  clear hK
  have mf := fun i => HK.out.frozen i
  have hS : Hold0 W2.drew := trivial
  have hT : Holds [(w.heap.size, 4, .slice p at_.length c), (w.heap.size, 5, .slice q ao.length d), (w.heap.size, 6, .slice s as_.length e), (w.heap.size, 6, .slice s as_.length e)] W2.drew := ⟨m4, m5, m6, m6, trivial⟩
  refine begin_D [24, 26, 28] (by kernel_rfl) hS (fun _ => hT) ?_
  refine take_S (v := ?v0) 0 rfl (by kernel_rfl) (by kernel_rfl) (by kernel_rfl) (by kernel_rfl) (fun _ _ _ h => h) hS (fun _ => hT) rfl (fun w' hq => ?h0) ?_
  case h0 => go_simp; try with_reducible rfl
  try simp only [Act.put, List.setIfInBounds_toArray, List.set_cons_zero, List.set_cons_succ, List.getElem_toArray, List.getElem_cons_succ, List.getElem_cons_zero]
  refine take_T (v := ?v1) 1 rfl (by kernel_rfl) (by kernel_rfl) (by kernel_rfl) (by kernel_rfl) (by kernel_rfl) (by kernel_rfl) (fun _ _ _ h => h) hS (fun _ => hT) rfl (fun w' hq hr => ?h1) ?_
  case h1 => obtain ⟨hr0, hr1, hr2, hr3, -⟩ := hr; change _ = some _ at hr0; change _ = some _ at hr1; change _ = some _ at hr2; change _ = some _ at hr3; go_simp; try with_reducible rfl
  try simp only [Act.put, List.setIfInBounds_toArray, List.set_cons_zero, List.set_cons_succ, List.getElem_toArray, List.getElem_cons_succ, List.getElem_cons_zero]
  refine take_S (v := ?v2) 2 rfl (by kernel_rfl) (by kernel_rfl) (by kernel_rfl) (by kernel_rfl) (fun _ _ _ h => h) hS (fun _ => hT) rfl (fun w' hq => ?h2) ?_
  case h2 => go_simp; try with_reducible rfl
  try simp only [Act.put, List.setIfInBounds_toArray, List.set_cons_zero, List.set_cons_succ, List.getElem_toArray, List.getElem_cons_succ, List.getElem_cons_zero]
  refine take_T (v := ?v3) 3 rfl (by kernel_rfl) (by kernel_rfl) (by kernel_rfl) (by kernel_rfl) (by kernel_rfl) (by kernel_rfl) (fun _ _ _ h => h) hS (fun _ => hT) rfl (fun w' hq hr => ?h3) ?_
  case h3 => obtain ⟨hr0, hr1, hr2, hr3, -⟩ := hr; change _ = some _ at hr0; change _ = some _ at hr1; change _ = some _ at hr2; change _ = some _ at hr3; go_simp; try with_reducible rfl
  try simp only [Act.put, List.setIfInBounds_toArray, List.set_cons_zero, List.set_cons_succ, List.getElem_toArray, List.getElem_cons_succ, List.getElem_cons_zero]
  refine take_S (v := ?v4) 4 rfl (by kernel_rfl) (by kernel_rfl) (by kernel_rfl) (by kernel_rfl) (fun _ _ _ h => h) hS (fun _ => hT) rfl (fun w' hq => ?h4) ?_
  case h4 => go_simp; try with_reducible rfl
  try simp only [Act.put, List.setIfInBounds_toArray, List.set_cons_zero, List.set_cons_succ, List.getElem_toArray, List.getElem_cons_succ, List.getElem_cons_zero]
  refine take_S (v := ?v5) 5 rfl (by kernel_rfl) (by kernel_rfl) (by kernel_rfl) (by kernel_rfl) (fun _ _ _ h => h) hS (fun _ => hT) rfl (fun w' hq => ?h5) ?_
  case h5 => go_simp; try with_reducible rfl
  try simp only [Act.put, List.setIfInBounds_toArray, List.set_cons_zero, List.set_cons_succ, List.getElem_toArray, List.getElem_cons_succ, List.getElem_cons_zero]
  refine take_S (v := ?v6) 6 rfl (by kernel_rfl) (by kernel_rfl) (by kernel_rfl) (by kernel_rfl) (fun _ _ _ h => h) hS (fun _ => hT) rfl (fun w' hq => ?h6) ?_
  case h6 => go_simp; try with_reducible rfl
  try simp only [Act.put, List.setIfInBounds_toArray, List.set_cons_zero, List.set_cons_succ, List.getElem_toArray, List.getElem_cons_succ, List.getElem_cons_zero]
  refine take_S (v := ?v8) 8 rfl (by kernel_rfl) (by kernel_rfl) (by kernel_rfl) (by kernel_rfl) (fun _ _ _ h => h) hS (fun _ => hT) rfl (fun w' hq => ?h8) ?_
  case h8 => go_simp; try with_reducible rfl
  try simp only [Act.put, List.setIfInBounds_toArray, List.set_cons_zero, List.set_cons_succ, List.getElem_toArray, List.getElem_cons_succ, List.getElem_cons_zero]
  refine take_T (v := ?v9) 9 rfl (by kernel_rfl) (by kernel_rfl) (by kernel_rfl) (by kernel_rfl) (by kernel_rfl) (by kernel_rfl) (fun _ _ _ h => h) hS (fun _ => hT) rfl (fun w' hq hr => ?h9) ?_
  case h9 => obtain ⟨hr0, hr1, hr2, hr3, -⟩ := hr; change _ = some _ at hr0; change _ = some _ at hr1; change _ = some _ at hr2; change _ = some _ at hr3; go_simp; try with_reducible rfl
  try simp only [Act.put, List.setIfInBounds_toArray, List.set_cons_zero, List.set_cons_succ, List.getElem_toArray, List.getElem_cons_succ, List.getElem_cons_zero]
  refine take_S (v := ?v10) 10 rfl (by kernel_rfl) (by kernel_rfl) (by kernel_rfl) (by kernel_rfl) (fun _ _ _ h => h) hS (fun _ => hT) rfl (fun w' hq => ?h10) ?_
  case h10 => go_simp; try with_reducible rfl
  try simp only [Act.put, List.setIfInBounds_toArray, List.set_cons_zero, List.set_cons_succ, List.getElem_toArray, List.getElem_cons_succ, List.getElem_cons_zero]
  refine take_T (v := ?v11) 11 rfl (by kernel_rfl) (by kernel_rfl) (by kernel_rfl) (by kernel_rfl) (by kernel_rfl) (by kernel_rfl) (fun _ _ _ h => h) hS (fun _ => hT) rfl (fun w' hq hr => ?h11) ?_
  case h11 => obtain ⟨hr0, hr1, hr2, hr3, -⟩ := hr; change _ = some _ at hr0; change _ = some _ at hr1; change _ = some _ at hr2; change _ = some _ at hr3; go_simp; try with_reducible rfl
  try simp only [Act.put, List.setIfInBounds_toArray, List.set_cons_zero, List.set_cons_succ, List.getElem_toArray, List.getElem_cons_succ, List.getElem_cons_zero]
  refine take_S (v := ?v12) 12 rfl (by kernel_rfl) (by kernel_rfl) (by kernel_rfl) (by kernel_rfl) (fun _ _ _ h => h) hS (fun _ => hT) rfl (fun w' hq => ?h12) ?_
  case h12 => go_simp; try with_reducible rfl
  try simp only [Act.put, List.setIfInBounds_toArray, List.set_cons_zero, List.set_cons_succ, List.getElem_toArray, List.getElem_cons_succ, List.getElem_cons_zero]
  refine take_S (v := ?v13) 13 rfl (by kernel_rfl) (by kernel_rfl) (by kernel_rfl) (by kernel_rfl) (fun _ _ _ h => h) hS (fun _ => hT) rfl (fun w' hq => ?h13) ?_
  case h13 => go_simp; try with_reducible rfl
  try simp only [Act.put, List.setIfInBounds_toArray, List.set_cons_zero, List.set_cons_succ, List.getElem_toArray, List.getElem_cons_succ, List.getElem_cons_zero]
  refine take_S (v := ?v14) 14 rfl (by kernel_rfl) (by kernel_rfl) (by kernel_rfl) (by kernel_rfl) (fun _ _ _ h => h) hS (fun _ => hT) rfl (fun w' hq => ?h14) ?_
  case h14 => go_simp; try with_reducible rfl
  try simp only [Act.put, List.setIfInBounds_toArray, List.set_cons_zero, List.set_cons_succ, List.getElem_toArray, List.getElem_cons_succ, List.getElem_cons_zero]
  refine take_S (v := ?v16) 16 rfl (by kernel_rfl) (by kernel_rfl) (by kernel_rfl) (by kernel_rfl) (fun _ _ _ h => h) hS (fun _ => hT) rfl (fun w' hq => ?h16) ?_
  case h16 => go_simp; try with_reducible rfl
  try simp only [Act.put, List.setIfInBounds_toArray, List.set_cons_zero, List.set_cons_succ, List.getElem_toArray, List.getElem_cons_succ, List.getElem_cons_zero]
  refine take_T (v := ?v17) 17 rfl (by kernel_rfl) (by kernel_rfl) (by kernel_rfl) (by kernel_rfl) (by kernel_rfl) (by kernel_rfl) (fun _ _ _ h => h) hS (fun _ => hT) rfl (fun w' hq hr => ?h17) ?_
  case h17 => obtain ⟨hr0, hr1, hr2, hr3, -⟩ := hr; change _ = some _ at hr0; change _ = some _ at hr1; change _ = some _ at hr2; change _ = some _ at hr3; go_simp; try with_reducible rfl
  try simp only [Act.put, List.setIfInBounds_toArray, List.set_cons_zero, List.set_cons_succ, List.getElem_toArray, List.getElem_cons_succ, List.getElem_cons_zero]
  refine take_S (v := ?v18) 18 rfl (by kernel_rfl) (by kernel_rfl) (by kernel_rfl) (by kernel_rfl) (fun _ _ _ h => h) hS (fun _ => hT) rfl (fun w' hq => ?h18) ?_
  case h18 => go_simp; try with_reducible rfl
  try simp only [Act.put, List.setIfInBounds_toArray, List.set_cons_zero, List.set_cons_succ, List.getElem_toArray, List.getElem_cons_succ, List.getElem_cons_zero]
  refine take_T (v := ?v19) 19 rfl (by kernel_rfl) (by kernel_rfl) (by kernel_rfl) (by kernel_rfl) (by kernel_rfl) (by kernel_rfl) (fun _ _ _ h => h) hS (fun _ => hT) rfl (fun w' hq hr => ?h19) ?_
  case h19 => obtain ⟨hr0, hr1, hr2, hr3, -⟩ := hr; change _ = some _ at hr0; change _ = some _ at hr1; change _ = some _ at hr2; change _ = some _ at hr3; go_simp; try with_reducible rfl
  try simp only [Act.put, List.setIfInBounds_toArray, List.set_cons_zero, List.set_cons_succ, List.getElem_toArray, List.getElem_cons_succ, List.getElem_cons_zero]
  refine take_S (v := ?v20) 20 rfl (by kernel_rfl) (by kernel_rfl) (by kernel_rfl) (by kernel_rfl) (fun _ _ _ h => h) hS (fun _ => hT) rfl (fun w' hq => ?h20) ?_
  case h20 => go_simp; try with_reducible rfl
  try simp only [Act.put, List.setIfInBounds_toArray, List.set_cons_zero, List.set_cons_succ, List.getElem_toArray, List.getElem_cons_succ, List.getElem_cons_zero]
  refine take_S (v := ?v21) 21 rfl (by kernel_rfl) (by kernel_rfl) (by kernel_rfl) (by kernel_rfl) (fun _ _ _ h => h) hS (fun _ => hT) rfl (fun w' hq => ?h21) ?_
  case h21 => go_simp; try with_reducible rfl
  try simp only [Act.put, List.setIfInBounds_toArray, List.set_cons_zero, List.set_cons_succ, List.getElem_toArray, List.getElem_cons_succ, List.getElem_cons_zero]
  refine take_S (v := ?v22) 22 rfl (by kernel_rfl) (by kernel_rfl) (by kernel_rfl) (by kernel_rfl) (fun _ _ _ h => h) hS (fun _ => hT) rfl (fun w' hq => ?h22) ?_
  case h22 => go_simp; try with_reducible rfl
  try simp only [Act.put, List.setIfInBounds_toArray, List.set_cons_zero, List.set_cons_succ, List.getElem_toArray, List.getElem_cons_succ, List.getElem_cons_zero]
  refine take_S (v := ?v23) 23 rfl (by kernel_rfl) (by kernel_rfl) (by kernel_rfl) (by kernel_rfl) (fun _ _ _ h => h) hS (fun _ => hT) rfl (fun w' hq => ?h23) ?_
  case h23 => go_simp; try with_reducible rfl
  try simp only [Act.put, List.setIfInBounds_toArray, List.set_cons_zero, List.set_cons_succ, List.getElem_toArray, List.getElem_cons_succ, List.getElem_cons_zero]
  refine one_D 7 rfl (by kernel_rfl) (fun KQ hK => ?_)
  go_simp
  have hb3 := ((HB.out.alloc HB.out.size (.cells #[] 46))).drew
  have hbw := ((Below.refl W2.heap.size W2).alloc (Nat.le_refl _) (.cells #[] 46)).drew
  have HK3 := Lib.hid (HK.out.below hbw)
  have HL3 := Lib.hid (HL.out.below hbw)
  have Hgb := Lib.hid (Blk.drew (Blk.new W2 46 #[]))
  have Hgl := Lib.hid (show w.heap.size ≤ W2.heap.size ∧ w.heap.size + 1 < W2.heap.size from ⟨by have := HK.out.lt; omega, HL.out.lt⟩)
  have Hsz3 := Lib.hid (show W2.heap.size < (W2.alloc (.cells #[] 46)).drew.heap.size by have := World.size_alloc W2 (.cells #[] 46); show W2.heap.size < (W2.alloc (.cells #[] 46)).heap.size; omega)
  have HB3 := Lib.hid hb3
  clear hb3 hbw hS hT m0 m1 m2 m3 m4 m5 m6 hz mf HK HL HB
  generalize (W2.alloc (.cells #[] 46)).drew = W3 at *
  generalize W2.heap.size = g at *
  have hK := HK3.out
  have m0 := hK.cell 0
  have m1 := hK.cell 1
  have m2 := hK.cell 2
  have m3 := hK.cell 3
  have m4 := hK.cell 4
  have m5 := hK.cell 5
  have m6 := hK.cell 6
  have hz := hK.lt
  simp only [List.getElem?_toArray, List.getElem?_cons_succ, List.getElem?_cons_zero] at m0 m1 m2 m3 m4 m5 m6
  clear hK
  have hS : Hold0 W3 := trivial
  have hT : Holds [(w.heap.size, 4, .slice p at_.length c), (w.heap.size, 5, .slice q ao.length d), (w.heap.size, 6, .slice s as_.length e), (w.heap.size, 6, .slice s as_.length e)] W3 := ⟨m4, m5, m6, m6, trivial⟩
  refine hK.out _ _ hS (fun _ => hT) ?_
  clear hK
  refine one_D 15 rfl (by kernel_rfl) (fun KQ hK => ?_)
  refine step_ops rfl (.tmp 11) (.tmp 18) rfl (g := g) (os := o) rfl rfl HB3.out Hgl.out.1 Hgb.out HO.out (by have := Ho2.out; omega) ?_
  intro p2 c2 w4 hown hb4 hkeep hsz
  have HW := Lib.hid hown
  have HB4 := Lib.hid hb4
  have HK4 := Lib.hid (show Blk w4 w.heap.size 41 #[.int .i64 a0, .int .u32 a1, .int .u64 a2, .bool a3, .slice p at_.length c, .slice q ao.length d, .slice s as_.length e] from (hkeep _ HK3.out.lt (by have := Hgl.out; omega)).trans HK3.out)
  have HL4 := Lib.hid (show Blk w4 (w.heap.size + 1) 41 #[.int .i64 0, .int .u32 0, .int .u64 0, .bool false, .slice none 0 0, .slice none 0 0, .slice none 0 0] from (hkeep _ HL3.out.lt (by have := Hgl.out; omega)).trans HL3.out)
  clear hown hb4 hkeep hsz hS hT m0 m1 m2 m3 m4 m5 m6 hz HK3 HL3 HB3 Hgb Hgl Hsz3
  try simp only [Act.put, List.setIfInBounds_toArray, List.set_cons_zero, List.set_cons_succ, List.getElem_toArray, List.getElem_cons_succ, List.getElem_cons_zero]
  have hK := HK4.out
  have m0 := hK.cell 0
  have m1 := hK.cell 1
  have m2 := hK.cell 2
  have m3 := hK.cell 3
  have m4 := hK.cell 4
  have m5 := hK.cell 5
  have m6 := hK.cell 6
  have hz := hK.lt
  simp only [List.getElem?_toArray, List.getElem?_cons_succ, List.getElem?_cons_zero] at m0 m1 m2 m3 m4 m5 m6
  clear hK
  have mf := fun i => HK4.out.frozen i
  have hS : Hold0 w4 := trivial
  have hT : Holds [(w.heap.size, 4, .slice p at_.length c), (w.heap.size, 5, .slice q ao.length d), (w.heap.size, 6, .slice s as_.length e), (w.heap.size, 6, .slice s as_.length e)] w4 := ⟨m4, m5, m6, m6, trivial⟩
  refine hK.out _ _ hS (fun _ => hT) ?_
  clear hK hT
  refine one_D 24 rfl (by kernel_rfl) (fun KQ hK => ?_)
  go_simp
  refine hK.out _ _ trivial (fun h => Bool.noConfusion (show false = true from h)) ?_
  clear hK hS
  have hS : Hold0 (w4.setCell ⟨w.heap.size, 4, none⟩ (.slice p t.length c)) := trivial
  refine take_S (v := ?v25) 25 rfl (by kernel_rfl) (by kernel_rfl) (by kernel_rfl) (by kernel_rfl) (fun _ _ _ h => h) hS (fun h => Bool.noConfusion (show false = true from h)) rfl (fun w' hq => ?h25) ?_
  case h25 => go_simp; try with_reducible rfl
  try simp only [Act.put, List.setIfInBounds_toArray, List.set_cons_zero, List.set_cons_succ, List.getElem_toArray, List.getElem_cons_succ, List.getElem_cons_zero]
  refine one_D 26 rfl (by kernel_rfl) (fun KQ hK => ?_)
  go_simp
  refine hK.out _ _ trivial (fun h => Bool.noConfusion (show false = true from h)) ?_
  clear hK hS
  have hS : Hold0 ((w4.setCell ⟨w.heap.size, 4, none⟩ (.slice p t.length c)).setCell ⟨w.heap.size, 5, none⟩ (.slice p2 o.length c2)) := trivial
  refine take_S (v := ?v27) 27 rfl (by kernel_rfl) (by kernel_rfl) (by kernel_rfl) (by kernel_rfl) (fun _ _ _ h => h) hS (fun h => Bool.noConfusion (show false = true from h)) rfl (fun w' hq => ?h27) ?_
  case h27 => go_simp; try with_reducible rfl
  try simp only [Act.put, List.setIfInBounds_toArray, List.set_cons_zero, List.set_cons_succ, List.getElem_toArray, List.getElem_cons_succ, List.getElem_cons_zero]
  refine one_D 28 rfl (by kernel_rfl) (fun KQ hK => ?_)
  go_simp
  refine hK.out _ _ trivial (fun h => Bool.noConfusion (show false = true from h)) ?_
  clear hK hS
  refine done_D (by kernel_rfl) ?_ _
  have HK5 := Lib.hid (show Blk (((w4.setCell ⟨w.heap.size, 4, none⟩ (.slice p t.length c)).setCell ⟨w.heap.size, 5, none⟩ (.slice p2 o.length c2)).setCell ⟨w.heap.size, 6, none⟩ (.slice s ss.length e)) w.heap.size 41 #[.int .i64 a0, .int .u32 a1, .int .u64 a2, .bool a3, .slice p t.length c, .slice p2 o.length c2, .slice s ss.length e] from by
    have := ((HK4.out.set_ 4 (.slice p t.length c)).set_ 5 (.slice p2 o.length c2)).set_ 6 (.slice s ss.length e)
    simpa using this)
  have HL5 := Lib.hid (show Blk (((w4.setCell ⟨w.heap.size, 4, none⟩ (.slice p t.length c)).setCell ⟨w.heap.size, 5, none⟩ (.slice p2 o.length c2)).setCell ⟨w.heap.size, 6, none⟩ (.slice s ss.length e)) (w.heap.size + 1) 41 #[.int .i64 0, .int .u32 0, .int .u64 0, .bool false, .slice none 0 0, .slice none 0 0, .slice none 0 0] from ((HL4.out.far (p := ⟨w.heap.size, 4, none⟩) (by simp) _).far (p := ⟨w.heap.size, 5, none⟩) (by simp) _).far (p := ⟨w.heap.size, 6, none⟩) (by simp) _)
  have HB5 := Lib.hid (((HB4.out.setCell (p := ⟨w.heap.size, 4, none⟩) (Nat.le_refl _) (.slice p t.length c)).setCell (p := ⟨w.heap.size, 5, none⟩) (Nat.le_refl _) (.slice p2 o.length c2)).setCell (p := ⟨w.heap.size, 6, none⟩) (Nat.le_refl _) (.slice s ss.length e))
  have HW5 := Lib.hid (show OwnOps w (((w4.setCell ⟨w.heap.size, 4, none⟩ (.slice p t.length c)).setCell ⟨w.heap.size, 5, none⟩ (.slice p2 o.length c2)).setCell ⟨w.heap.size, 6, none⟩ (.slice s ss.length e)) S0 p2 c2 o from
    ((HW.out.far HK4.out 4 _).far (HK4.out.set_ _ _) 5 _).far ((HK4.out.set_ _ _).set_ _ _) 6 _)
  clear HK4 HL4 HB4 HW mf m0 m1 m2 m3 m4 m5 m6 hz q1 q2 q3 b1 b2 b3
  generalize ((w4.setCell ⟨w.heap.size, 4, none⟩ (.slice p t.length c)).setCell ⟨w.heap.size, 5, none⟩ (.slice p2 o.length c2)).setCell ⟨w.heap.size, 6, none⟩ (.slice s ss.length e) = W5 at *
  have hol2 := Ho2.out
  have hK := HK5.out
  have m0 := hK.cell 0
  have m1 := hK.cell 1
  have m2 := hK.cell 2
  have m3 := hK.cell 3
  have m4 := hK.cell 4
  have m5 := hK.cell 5
  have m6 := hK.cell 6
  have hz := hK.lt
  simp only [List.getElem?_toArray, List.getElem?_cons_succ, List.getElem?_cons_zero] at m0 m1 m2 m3 m4 m5 m6
  clear hK
  go_wp2_with fail
  clear m0 m1 m2 m3 m4 m5 m6 hz
  go_loopw [33] (fun iv wr => ∃ k : Nat, k ≤ o.length ∧ iv = .int .i64 k ∧ Hid (OwnOps w wr S0 p2 c2 ((o.take k).map cutO ++ o.drop k) ∧ Blk wr w.heap.size 41 #[.int .i64 a0, .int .u32 a1, .int .u64 a2, .bool a3, .slice p t.length c, .slice p2 o.length c2, .slice s ss.length e] ∧ Blk wr (w.heap.size + 1) 41 #[.int .i64 0, .int .u32 0, .int .u64 0, .bool false, .slice none 0 0, .slice none 0 0, .slice none 0 0] ∧ Below w.heap.size w wr)) (fun iv _ => o.length - (intOf iv).toNat)
  case atStart => exact ⟨0, Nat.zero_le _, rfl, Lib.hid ⟨by simpa using HW5.out, HK5.out, HL5.out, HB5.out⟩⟩
  case round =>
    obtain ⟨k, hk, rfl, hR⟩ := hrel
    have hK := hR.out.2.1
    have m0 := hK.cell 0
    have m1 := hK.cell 1
    have m2 := hK.cell 2
    have m3 := hK.cell 3
    have m4 := hK.cell 4
    have m5 := hK.cell 5
    have m6 := hK.cell 6
    have hz := hK.lt
    simp only [List.getElem?_toArray, List.getElem?_cons_succ, List.getElem?_cons_zero] at m0 m1 m2 m3 m4 m5 m6
    clear hK
    by_cases hlt : k < o.length
    · have hlti : (k : Int) < (o.length : Int) := by omega
      obtain ⟨hk2, hat⟩ := cut_at hlt
      obtain ⟨g, hp2, hgl, ⟨cur, hgk⟩, key⟩ := hR.out.1.2.2 (by omega)
      subst hp2
      obtain ⟨q', k', e0, e1, e2, e3, hu⟩ := key k hk2
      have hset := hR.out.1.set (p' := q') (q := k') (us := o[k].us.take 300) hk2
      have hcs := cut_step hlt
      rw [hat] at e2 hu hset
      rw [show ({ o[k] with us := o[k].us.take 300 } : Opr) = cutO o[k] from rfl, hcs] at hset
      have Hin := Lib.hid (List.getElem_mem hlt)
      have hoc : o.length ≤ c2 := by
        have h1 := hR.out.1.1
        have h2 : ((o.take k).map cutO ++ o.drop k).length = o.length := by rw [List.length_append, List.length_map, List.length_take, List.length_drop]; omega
        omega
      generalize o[k]'hlt = u at *
      obtain ⟨us2, hus⟩ : ∃ x, u.us.take 300 = x := ⟨_, rfl⟩
      rw [hus] at hset
      obtain ⟨hU, hu3, hul⟩ := hu.front_ hus
      have hcap : u.us.length ≤ k' := by obtain ⟨_, ⟨_, _, _, h, h1, h2, _⟩, _⟩ := hu; injection h with _ _ h; subst h; exact h1
      have q4 : (if (300 : Int) < (u.us.length : Int) then (300 : Int) else (u.us.length : Int)) = (us2.length : Int) := by rw [← hus, List.length_take]; split <;> omega
      have b4 : (us2.length : Int) ≤ (k' : Int) := by omega
      have Hset := Lib.hid (hset hU)
      have hne : g ≠ w.heap.size := by
        rintro rfl
        have h1 := hgk.symm.trans hR.out.2.1
        injection h1 with h1
        injection h1 with _ h1
        exact absurd h1 (by decide)
      have hne2 : g ≠ w.heap.size + 1 := by
        rintro rfl
        have h1 := hgk.symm.trans hR.out.2.2.1
        injection h1 with h1
        injection h1 with _ h1
        exact absurd h1 (by decide)
      have hgf := hgk.frozen (k * 4 + 2)
      have hgz := hgk.lt
      have HKn := Lib.hid (hR.out.2.1.far (p := ⟨g, k * 4 + 2, none⟩) (Ne.symm hne) (.slice q' us2.length k'))
      have HLn := Lib.hid (hR.out.2.2.1.far (p := ⟨g, k * 4 + 2, none⟩) (Ne.symm hne2) (.slice q' us2.length k'))
      have HBn := Lib.hid (hR.out.2.2.2.setCell (p := ⟨g, k * 4 + 2, none⟩) hgl (.slice q' us2.length k'))
      clear hset hcs hat hk2 key hU hu hus e0 e1 e3 hR hgk hul hu3 hcap
      go_wp2_with fail
      go_region
      have Hall := Lib.hid (show OwnOps w (wr.setCell ⟨g, k * 4 + 2, none⟩ (.slice q' us2.length k')).drew S0 (some ⟨g, 0, none⟩) c2 ((o.take (k + 1)).map cutO ++ o.drop (k + 1)) ∧ Blk (wr.setCell ⟨g, k * 4 + 2, none⟩ (.slice q' us2.length k')).drew w.heap.size 41 #[.int .i64 a0, .int .u32 a1, .int .u64 a2, .bool a3, .slice p t.length c, .slice (some ⟨g, 0, none⟩) o.length c2, .slice s ss.length e] ∧ Blk (wr.setCell ⟨g, k * 4 + 2, none⟩ (.slice q' us2.length k')).drew (w.heap.size + 1) 41 #[.int .i64 0, .int .u32 0, .int .u64 0, .bool false, .slice none 0 0, .slice none 0 0, .slice none 0 0] ∧ Below w.heap.size w (wr.setCell ⟨g, k * 4 + 2, none⟩ (.slice q' us2.length k')).drew from
        ⟨OwnOps.next Hset.out (fun _ _ _ => rfl), Blk.drew HKn.out, Blk.drew HLn.out, HBn.out.drew⟩)
      clear Hset HKn HLn HBn e2 hgf m0 m1 m2 m3 m4 m5 m6 hz
      go_wp2_with fail
      go_roundw
      case rel => exact ⟨k + 1, by omega, by go_num, Hall⟩
      case measure => simp [intOf]; omega
    · obtain rfl : k = o.length := by omega
      have hOw := hR.out.1
      rw [List.take_length, List.drop_length, List.append_nil] at hOw
      have HOw := Lib.hid hOw
      have HBf := Lib.hid hR.out.2.2.2
      have HKf := Lib.hid hR.out.2.1
      have hK := hR.out.2.2.1
      have n0 := hK.cell 0
      have n1 := hK.cell 1
      have n2 := hK.cell 2
      have n3 := hK.cell 3
      have n4 := hK.cell 4
      have n5 := hK.cell 5
      have n6 := hK.cell 6
      have hy := hK.lt
      simp only [List.getElem?_toArray, List.getElem?_cons_succ, List.getElem?_cons_zero] at n0 n1 n2 n3 n4 n5 n6
      clear hK
      have nf := fun i => (hR.out.2.2.1).frozen i
      have HLf := Lib.hid hR.out.2.2.1
      clear hOw hR
      go_wp2_with fail
      have H0 : Blk wr (w.heap.size + 1) 41 #[.int .i64 0, .int .u32 0, .int .u64 0, .bool false, .slice none 0 0, .slice none 0 0, .slice none 0 0] := HLf.out
      have O1 := HOw.out.far H0 0 (.int .i64 a0)
      have H1 := H0.set_ 0 (.int .i64 a0)
      have B1 := HBf.out.setCell (p := ⟨w.heap.size + 1, 0, none⟩) (Nat.le_succ _) (.int .i64 a0)
      have O2 := O1.far H1 1 (.int .u32 a1)
      have H2 := H1.set_ 1 (.int .u32 a1)
      have B2 := B1.setCell (p := ⟨w.heap.size + 1, 1, none⟩) (Nat.le_succ _) (.int .u32 a1)
      have O3 := O2.far H2 2 (.int .u64 a2)
      have H3 := H2.set_ 2 (.int .u64 a2)
      have B3 := B2.setCell (p := ⟨w.heap.size + 1, 2, none⟩) (Nat.le_succ _) (.int .u64 a2)
      have O4 := O3.far H3 3 (.bool a3)
      have H4 := H3.set_ 3 (.bool a3)
      have B4 := B3.setCell (p := ⟨w.heap.size + 1, 3, none⟩) (Nat.le_succ _) (.bool a3)
      have O5 := O4.far H4 4 (.slice p t.length c)
      have H5 := H4.set_ 4 (.slice p t.length c)
      have B5 := B4.setCell (p := ⟨w.heap.size + 1, 4, none⟩) (Nat.le_succ _) (.slice p t.length c)
      have O6 := O5.far H5 5 (.slice p2 o.length c2)
      have H6 := H5.set_ 5 (.slice p2 o.length c2)
      have B6 := B5.setCell (p := ⟨w.heap.size + 1, 5, none⟩) (Nat.le_succ _) (.slice p2 o.length c2)
      have O7 := O6.far H6 6 (.slice s ss.length e)
      have H7 := H6.set_ 6 (.slice s ss.length e)
      have B7 := B6.setCell (p := ⟨w.heap.size + 1, 6, none⟩) (Nat.le_succ _) (.slice s ss.length e)
      have hfin : Blk (((((((wr.setCell ⟨w.heap.size + 1, 0, none⟩ (.int .i64 a0)).setCell ⟨w.heap.size + 1, 1, none⟩ (.int .u32 a1)).setCell ⟨w.heap.size + 1, 2, none⟩ (.int .u64 a2)).setCell ⟨w.heap.size + 1, 3, none⟩ (.bool a3)).setCell ⟨w.heap.size + 1, 4, none⟩ (.slice p t.length c)).setCell ⟨w.heap.size + 1, 5, none⟩ (.slice p2 o.length c2)).setCell ⟨w.heap.size + 1, 6, none⟩ (.slice s ss.length e)) (w.heap.size + 1) 41 #[.int .i64 a0, .int .u32 a1, .int .u64 a2, .bool a3, .slice p t.length c, .slice p2 o.length c2, .slice s ss.length e] := by simpa using H7
      clear H0 H1 H2 H3 H4 H5 H6 H7 O1 O2 O3 O4 O5 O6 B1 B2 B3 B4 B5 B6
      refine bodyPost_ret_by (v := .agg #[.int .i64 a0, .int .u32 a1, .int .u64 a2, .bool a3, .slice p t.length c, .slice p2 o.length c2, .slice s ss.length e]) (results_cell_row (p := 2) rfl _ _ (w.heap.size + 1) 41 #[.int .i64 a0, .int .u32 a1, .int .u64 a2, .bool a3, .slice p t.length c, .slice p2 o.length c2, .slice s ss.length e] (0, 0) _ rfl hfin Tryd.underlying41 rfl (by kernel_rfl)) rfl ?_
      have hlm : (o.map cutO).length = o.length := List.length_map _
      have hO7 := O7.rd B7
      refine ⟨_, rfl, ?_, B7⟩
      rw [Hfew.out]
      refine ⟨p, c, p2, c2, s, e, by rw [hlm], (HT.out.below B7).into (fun _ h => .inl h), hO7, (HS.out.below B7).into (fun _ h => .inl h)⟩
end Go.Proofs.YtciojggkcmdjiaaDoor
