/-
  slices.Delete on a row of code points of the call's own: the contract. No condition but bounds far below what memory bears. (Printed by wip/gen_delc.py.)
-/
import Derived.Test.YtelaiafpfaohfaaRowC
namespace Go.Proofs.Ytelaiafpfaohfaa
open Go.RowKit Go.Lib Go.Proofs
set_option linter.unusedVariables false
set_option linter.unusedSimpArgs false

/-- An append that fits, inside a region. -/
theorem wp_append_fits_C {w : World} {o : Oper} {a : Act} {K : Act → World → Prop} {Q : Exit → Act → World → Prop} (s x : Operand)
    (ho : o.op = .call { callee := .builtin .append, args := #[s, x], argTypes := #[22, 22] }) (base g k cap : Nat) (l r : List Int) (S : Nat → Prop) (hk : k = l.length) (hs : a.eval s = .slice (some ⟨g, 0, none⟩) k cap) (hown : CharOwn w base (.slice (some ⟨g, 0, none⟩) k cap) l)
    (ad : Addr) (m c : Nat) (hm : m = r.length) (hx : a.eval x = .slice (some ad) m c) (hr : CharRd w S (.slice (some ad) m c) r) (hfit : k + m ≤ cap)
    (h : ∀ w', CharOwn w' base (.slice (some ⟨g, 0, none⟩) (k + m) cap) (l ++ r) → w.grownBy w' (some g) → K (a.put o.dst (.slice (some ⟨g, 0, none⟩) (k + m) cap)) w') : o.wp Try.prog a w K Q := by
  subst hk; subst hm
  obtain ⟨i0, hi, hz0, hz1, hz2⟩ := info_parts infoC
  obtain ⟨w', hrun, r1, r2⟩ := run_append_fits (P := Try.prog) w base 22 o.type 29 i0 1 Try.underlying22 hi hz1 g l.length cap (ccells l) hown ad r.length c (ccells r) (by rw [ccells_len, Nat.mul_one])
    (by
      intro j u hu
      have hj : j < r.length := by have := (List.getElem?_eq_some_iff.1 hu).1; rw [ccells_len] at this; exact this
      obtain ⟨b, off, he, _, _, hc⟩ := Rd.addr hr (by omega)
      injection he with he
      subst he
      have := hc j u hu
      rw [show (⟨b, off, none⟩ : Addr).add j = ⟨b, off + j, none⟩ from by unfold Addr.add; split <;> simp_all]
      exact this) (ccells_one r) hfit
  unfold Oper.wp
  simp [execOp, ho, resolve, invoke, builtin, hs, hx, hrun, Result.andThen]
  exact h w' (by unfold CharOwn; rw [List.length_append, ccells_app]; exact r1) r2

set_option maxHeartbeats 3200000 in
set_option maxRecDepth 100000 in
theorem row_del {w : World} {base i j : Nat} {v : Value} {l1 l2 l3 : List Int} (h : CharOwn w base v (l1 ++ l2 ++ l3)) (hi : i = l1.length) (hj : j = l1.length + l2.length) (hlen : (l1 ++ l2 ++ l3).length ≤ 100000) :
    Calls Try.prog 34 #[v, .int .i64 i, .int .i64 j] w (RowDone w base v (l1 ++ l3)) := by
  have hv3 : ∀ w, (zeroValue 29).run Try.prog w = .ok (.int .i32 0) w := Try.zeroValue29
  obtain ⟨p, c, rfl⟩ := own_slice h
  obtain ⟨n, hn⟩ : ∃ n, n = (l1 ++ l2 ++ l3).length := ⟨_, rfl⟩
  have hn3 : n = l1.length + l2.length + l3.length := by rw [hn, List.length_append, List.length_append]
  have hcle : n ≤ c ∧ c ≤ maxLen := by
    obtain ⟨_, _, _, hv, h1, h2, _⟩ := CharOwn.rd h
    injection hv with _ _ hv
    subst hv
    rw [hn]
    exact ⟨h1, h2⟩
  unfold maxLen at hcle
  rw [← hn] at h hlen ⊢
  have hij : (i : Int) ≤ (j : Int) := by omega
  have hjn : (j : Int) ≤ (n : Int) := by omega
  have hnc : (n : Int) ≤ (c : Int) := by omega
  obtain ⟨q1, hq1⟩ : ∃ q2, (if n = i then p else p.map (fun x => x.add i)) = q2 := ⟨_, rfl⟩
  by_cases hl0 : l2.length = 0
  · have : l2 = [] := List.eq_nil_of_length_eq_zero hl0
    subst this
    obtain rfl : i = j := by rw [hi, hj]; rfl
    rw [List.append_nil] at h
    have H := Lib.hid h
    clear h hn hn3 hi hj hl0 hij
    go_enter Try.func34, Try.ntmps34
    go_wp2_with fail
    go_ret
    exact ⟨_, rfl, H.out, Ext.refl _ _, .inl rfl⟩
  · have hne : ((i : Int) == (j : Int)) = false := by rw [beq_eq_false_iff_ne]; omega
    have hni : ¬ (n = i) := by omega
    clear hq1
    obtain ⟨g, c', hv, hgb, hnc', hcl, hfz⟩ := own_pos (show w.ownsRow base 29 1 (.slice p n c) n (ccells (l1 ++ l2 ++ l3)) from by rw [hn]; have h2 := h; rw [hn] at h2; exact h2) (by omega)
    injection hv with hv1 _ hv2
    subst hv1; subst hv2
    obtain ⟨cur, -, hB, hcs, -, -, -⟩ := CharOwn.blk h
    have hO1 : CharOwn w base (.slice (some ⟨g, 0, none⟩) i c) l1 := own_of_blk hB hcs hgb (by omega) (by unfold maxLen; omega) hi.symm (fun k u hu => by
      have hk : k < l1.length := by have := (List.getElem?_eq_some_iff.1 hu).1; rw [ccells_len] at this; exact this
      refine hcl k u ?_
      rw [ccells_app, ccells_app, List.append_assoc, List.getElem?_append_left (by rw [ccells_len]; exact hk)]
      exact hu)
    obtain ⟨q3, hq3⟩ : ∃ q3 : Addr, (if c = j then (some ⟨g, 0, none⟩ : Option Addr) else some ⟨g, j, none⟩) = some q3 := by
      by_cases hc : c = j
      · exact ⟨_, if_pos hc⟩
      · exact ⟨_, if_neg hc⟩
    obtain ⟨m3, hm3⟩ : ∃ m, n - j = m := ⟨_, rfl⟩
    obtain ⟨c3, hc3⟩ : ∃ m, c - j = m := ⟨_, rfl⟩
    have hm3l : m3 = l3.length := by omega
    have hR3 : CharRd w (fun _ => True) (.slice (some q3) m3 c3) l3 := by
      refine ⟨by rw [ccells_len, Nat.mul_one], some q3, c3, by rw [hm3l], by omega, by unfold maxLen; omega, fun h0 => ?_⟩
      have hc : ¬ c = j := by omega
      rw [if_neg hc] at hq3
      injection hq3 with hq3
      refine ⟨g, j, by rw [← hq3], trivial, fun k u hu => hcl _ u ?_⟩
      rw [ccells_app, List.getElem?_append_right (by rw [ccells_len, List.length_append]; omega), ccells_len, List.length_append, show j + k - (l1.length + l2.length) = k from by omega]
      exact hu
    obtain ⟨n1, hn1⟩ : ∃ m, i + m3 = m := ⟨_, rfl⟩
    have hn1i : (n1 : Int) ≤ (n : Int) := by omega
    have hn1l : (l1 ++ l3).length = n1 := by rw [List.length_append]; omega
    have hcn1 : ¬ (c = n1) := by omega
    have hic : (i : Int) ≤ (c : Int) := by omega
    have hjc : (j : Int) ≤ (c : Int) := by omega
    have hin : (i : Int) ≤ (n : Int) := by omega
    have HO1 := Lib.hid hO1
    have HR3 := Lib.hid hR3
    have HB := Lib.hid hB
    have Hsz := Lib.hid (And.intro hcs (And.intro hi hm3l))
    have hgl := hB.lt
    have hfit : i + m3 ≤ c := by omega
    have hpos : 0 < n - n1 := by omega
    have hcm : c ≤ maxLen := by unfold maxLen; omega
    have Hn1 := Lib.hid (And.intro hn1 hn1l)
    clear h hn hn3 hcl hB hO1 hR3 hcs hm3l hn1 hn1l hi hj hl0
    go_enter Try.func34, Try.ntmps34
    go_wp2_with fail
    have hS : Hold0 w.drew := trivial
    refine begin_D (T := Hold0) [] (by kernel_rfl) hS (fun _ => trivial) ?_
    refine take_S (v := ?v0a) 0 rfl (by kernel_rfl) (by kernel_rfl) (by kernel_rfl) (by kernel_rfl) (fun _ _ _ h => h) hS (fun _ => trivial) rfl (fun w' hq => ?h0a) ?_
    case h0a => go_simp; try with_reducible rfl
    try simp only [Act.put, List.setIfInBounds_toArray, List.set_cons_zero, List.set_cons_succ, List.getElem_toArray, List.getElem_cons_succ, List.getElem_cons_zero]
    refine take_S (v := ?v1a) 1 rfl (by kernel_rfl) (by kernel_rfl) (by kernel_rfl) (by kernel_rfl) (fun _ _ _ h => h) hS (fun _ => trivial) rfl (fun w' hq => ?h1a) ?_
    case h1a => go_simp; try with_reducible rfl
    try simp only [Act.put, List.setIfInBounds_toArray, List.set_cons_zero, List.set_cons_succ, List.getElem_toArray, List.getElem_cons_succ, List.getElem_cons_zero]
    refine take_S (v := ?v2a) 2 rfl (by kernel_rfl) (by kernel_rfl) (by kernel_rfl) (by kernel_rfl) (fun _ _ _ h => h) hS (fun _ => trivial) rfl (fun w' hq => ?h2a) ?_
    case h2a => go_simp; try with_reducible rfl
    try simp only [Act.put, List.setIfInBounds_toArray, List.set_cons_zero, List.set_cons_succ, List.getElem_toArray, List.getElem_cons_succ, List.getElem_cons_zero]
    refine take_S (v := ?v3a) 3 rfl (by kernel_rfl) (by kernel_rfl) (by kernel_rfl) (by kernel_rfl) (fun _ _ _ h => h) hS (fun _ => trivial) rfl (fun w' hq => ?h3a) ?_
    case h3a => go_simp; try with_reducible rfl
    try simp only [Act.put, List.setIfInBounds_toArray, List.set_cons_zero, List.set_cons_succ, List.getElem_toArray, List.getElem_cons_succ, List.getElem_cons_zero]
    refine take_S (v := ?v4a) 4 rfl (by kernel_rfl) (by kernel_rfl) (by kernel_rfl) (by kernel_rfl) (fun _ _ _ h => h) hS (fun _ => trivial) rfl (fun w' hq => ?h4a) ?_
    case h4a => go_simp; try with_reducible rfl
    try simp only [Act.put, List.setIfInBounds_toArray, List.set_cons_zero, List.set_cons_succ, List.getElem_toArray, List.getElem_cons_succ, List.getElem_cons_zero]
    refine take_S (v := (.slice (some q3) m3 c3)) 5 rfl (by kernel_rfl) (by kernel_rfl) (by kernel_rfl) (by kernel_rfl) (fun _ _ _ h => h) hS (fun _ => trivial) rfl (fun w' hq => ?h5a) ?_
    case h5a => go_simp; first | rfl | (rw [hm3, hc3]; first | exact hq3 | (simp [hq3]; done)) | (simp [hq3, hm3, hc3]; done) | skip
    try simp only [Act.put, List.setIfInBounds_toArray, List.set_cons_zero, List.set_cons_succ, List.getElem_toArray, List.getElem_cons_succ, List.getElem_cons_zero]
    refine one_D 6 rfl (by kernel_rfl) (fun KQ hK => ?_)
    refine Eq.mpr (if_pos (by rfl)) ?_
    refine wp_append_fits_C _ _ rfl base g i c l1 l3 (fun _ => True) Hsz.out.2.1 rfl (show CharOwn w.drew _ _ _ from HO1.out) q3 m3 c3 Hsz.out.2.2 rfl (show CharRd w.drew _ _ _ from HR3.out) hfit ?_
    intro w1 ho1 hg1
    rw [Hn1.out.1] at ho1 ⊢
    refine hK.out _ _ trivial (fun _ => trivial) ?_
    have hX1 : Ext (fun j => (Value.slice (some ⟨g, 0, none⟩) n c).ownBlock = some j) w w1 := ⟨hg1.os, hg1.tape, hg1.output, hg1.size, fun k hk hn => hg1.block k hk (fun e => hn e.symm)⟩
    have hS1 : Hold0 w1 := trivial
    obtain ⟨cur1, -, hB1, hcs1, -, -, -⟩ := CharOwn.blk ho1
    have HO := Lib.hid ho1
    have HX1 := Lib.hid hX1
    have HB1 := Lib.hid hB1
    have hsz1 : cur1.size = c := hcs1
    clear hK ho1 hg1 hX1 hB1
    refine take_S (v := ?v7b) 7 rfl (by kernel_rfl) (by kernel_rfl) (by kernel_rfl) (by kernel_rfl) (fun _ _ _ h => h) hS1 (fun _ => trivial) rfl (fun w' hq => ?h7b) ?_
    case h7b => go_simp; try with_reducible rfl
    try simp only [Act.put, List.setIfInBounds_toArray, List.set_cons_zero, List.set_cons_succ, List.getElem_toArray, List.getElem_cons_succ, List.getElem_cons_zero]
    refine done_D (by kernel_rfl) ?_ _
    have hcl2 : ∀ ty, (Builtin.clear_ #[22] ty #[.slice (some ⟨g, n1, none⟩) (n - n1) (c - n1)]).run Try.prog w1 = .ok (.tuple #[]) (w1.setCells g n1 (List.replicate (n - n1) (.int .i32 0))) :=
      fun ty => Lib.run_clear_slice w1 _ _ ty _ Try.underlying22 hv3 rfl rfl g n1 _ _ hpos (fun k hk => by rw [HB1.out.cell, Array.getElem?_eq_getElem (by omega)]; rfl) (fun k hk => HB1.out.frozen _)
    obtain ⟨W2, hW2⟩ : ∃ W2, W2 = w1.setCells g n1 (List.replicate (n - n1) (.int .i32 0)) := ⟨_, rfl⟩
    rw [← hW2] at hcl2
    have HW2 := Lib.hid hW2
    clear hW2
    go_wp2
    go_ret
    obtain ⟨c2, hB2, hs2⟩ := blk_setCells (List.replicate (n - n1) (.int .i32 0)) n1 w1 cur1 HB1.out
    refine ⟨_, rfl, ?_, ?_, .inl rfl⟩
    · rw [HW2.out]
      refine own_of_blk hB2 (by rw [hs2]; exact hsz1) hgb (by omega) hcm Hn1.out.2 (fun k u hu => ?_)
      have hk : k < n1 := by have := (List.getElem?_eq_some_iff.1 hu).1; rw [ccells_len, Hn1.out.2] at this; exact this
      rw [World.cell?_setCells_out _ _ _ _ _ (fun _ _ => .inl (by show k < n1; exact hk))]
      exact CharOwn.cells HO.out k u hu
    · rw [HW2.out]
      exact ext_setCells (M := fun j => (Value.slice (some ⟨g, 0, none⟩) n c).ownBlock = some j) rfl _ _ _ _ HX1.out
end Go.Proofs.Ytelaiafpfaohfaa
