/-
  piece.Table's Flatten and Copy: the contracts. No condition but bounds far below what memory bears. (Printed by wip/gen_flat.py.)
-/
import Derived.Test.YtelaiafpfaohfaaTb
import Derived.Test.YtelaiafpfaohfaaOrdB
namespace Go.Proofs.Ytelaiafpfaohfaa
open Go.RowKit
set_option linter.unusedSimpArgs false
set_option linter.unusedVariables false

def Hold4 (a b c d : Nat × Nat × Value) (w : World) : Prop := Hold1 a w ∧ Hold1 b w ∧ Hold1 c w ∧ Hold1 d w

theorem Blk.c5 {w : World} {g : Nat} {t : TypeId} {a b c d e : Value} (h : Blk w g t #[a, b, c, d, e]) : w.cell? ⟨g, 0, none⟩ = some a ∧ w.cell? ⟨g, 1, none⟩ = some b ∧ w.cell? ⟨g, 2, none⟩ = some c ∧ w.cell? ⟨g, 3, none⟩ = some d ∧ w.cell? ⟨g, 4, none⟩ = some e :=
  ⟨h.cell 0, h.cell 1, h.cell 2, h.cell 3, h.cell 4⟩
theorem Blk.f5 {w : World} {g : Nat} {t : TypeId} {a b c d e : Value} (h : Blk w g t #[a, b, c, d, e]) : w.frozen? ⟨g, 0, none⟩ = false ∧ w.frozen? ⟨g, 1, none⟩ = false ∧ w.frozen? ⟨g, 2, none⟩ = false ∧ w.frozen? ⟨g, 3, none⟩ = false ∧ w.frozen? ⟨g, 4, none⟩ = false :=
  ⟨h.frozen 0, h.frozen 1, h.frozen 2, h.frozen 3, h.frozen 4⟩
theorem Blk.set5 {w : World} {g : Nat} {t : TypeId} {a b c d e a' b' c' d' e' : Value} (h : Blk w g t #[a, b, c, d, e]) :
    Blk (((((w.setCell ⟨g, 0, none⟩ a').setCell ⟨g, 1, none⟩ b').setCell ⟨g, 2, none⟩ c').setCell ⟨g, 3, none⟩ d').setCell ⟨g, 4, none⟩ e') g t #[a', b', c', d', e'] := by
  simpa using ((((h.set_ 0 a').set_ 1 b').set_ 2 c').set_ 3 d').set_ 4 e'

/-- What Flatten leaves. -/
def Flat (w : World) (b : Nat) (t : Tb) (e : Ending) (w' : World) : Prop := (∃ v, e = .returned v) ∧ TbAt w' (fun k => w.heap.size ≤ k) b t.flat ∧ Ext (fun k => k = b) w w'
set_option maxHeartbeats 1600000 in
theorem flat_all {w : World} {T : Nat → Prop} {b N : Nat} {t : Tb} (h : TbAt w T b t) (hok : t.Ok N) (hN : N ≤ 100000) :
    Calls Try.prog 19 #[.pointer (some ⟨b, 0, none⟩)] w (Flat w b t) := by
  have Ht := Lib.hid (text_all h hok hN)
  have Hlen := Lib.hid (show t.text.length ≤ 1000000 from by rw [hok.text_len]; have := hok.n; omega)
  have Hb := Lib.hid h.blk
  clear h hok
  go_enter Try.func19, Try.ntmps19
  go_wp2_with fail
  obtain ⟨x, y, z, hB⟩ := Hb.out
  refine (tab_none hB).mono ?_
  rintro e w' ⟨rfl, rfl⟩
  have HB := Lib.hid hB
  clear hB Hb
  go_wp2_with fail
  refine Ht.out.mono ?_
  rintro e w1 ⟨v, rfl, ho, hX1⟩
  go_wp2_with fail
  refine (new_all ho.rd Hlen.out).mono ?_
  rintro e w2 ⟨b2, rfl, hb2, ⟨vf, vs, vp, hB2, hf, hs, hp, hnf, hns⟩, hX2⟩
  obtain ⟨nf, qf, cf, rfl⟩ : ∃ n p c, vf = .slice p n c := (by obtain ⟨p, c, h⟩ := Rd.slice hf; exact ⟨_, p, c, h⟩)
  obtain ⟨ns, qs, cs, rfl⟩ : ∃ n p c, vs = .slice p n c := (by obtain ⟨p, c, h⟩ := Rd.slice hs; exact ⟨_, p, c, h⟩)
  obtain ⟨np, qp, cp, rfl⟩ : ∃ n p c, vp = .slice p n c := (by obtain ⟨p, c, h⟩ := Rd.slice hp; exact ⟨_, p, c, h⟩)
  have HB1 := Lib.hid ((HB.out.below hX1).below hX2)
  obtain ⟨a0, a1, a2, a3, a4⟩ := HB1.out.c5
  obtain ⟨f0, f1, f2, f3, f4⟩ := HB1.out.f5
  obtain ⟨c0, c1, c2, c3, c4⟩ := hB2.c5
  have HE := Lib.hid (hX1.trans (hX2.mono hX1.size))
  have hlt := HB.out.lt
  have hsz := hX1.size
  have HR := Lib.hid (And.intro hf (And.intro hs (And.intro hp (And.intro hnf hns))))
  clear hB2 hf hs hp hnf hns ho hX1 hX2
  go_wp2_with fail
  go_end0
  have hS : ∀ k, (w1.heap.size ≤ k ∧ k ≠ b2) → k < w2.heap.size → w.heap.size ≤ k := fun k h _ => by omega
  have hE : Ext (fun k => k = b) w2 (((((w2.setCell ⟨b, 0, none⟩ (.slice qf nf cf)).setCell ⟨b, 1, none⟩ (.slice qs ns cs)).setCell ⟨b, 2, none⟩ (.slice qp np cp)).setCell ⟨b, 3, none⟩ (.int .i64 ((Tb.new t.text).long : Int))).setCell ⟨b, 4, none⟩ (.bool true)) :=
    Ext.set1 (M := fun k => k = b) (Ext.set1 (M := fun k => k = b) (Ext.set1 (M := fun k => k = b) (Ext.set1 (M := fun k => k = b) (Ext.set1 (M := fun k => k = b) (Ext.refl _ w2) rfl) rfl) rfl) rfl) rfl
  have hM : ∀ k, w.heap.size ≤ k → ¬ k = b := fun k h he => by omega
  obtain ⟨hf, hs, hp, hnf, hns⟩ := HR.out
  exact ⟨⟨_, rfl⟩, ⟨_, _, _, HB1.out.set5, Rd.ext (Rd.weak hf hS (by decide)) hE hM (by decide), Rd.ext (Rd.weak hs hS (by decide)) hE hM (by decide), Rd.ext (Rd.weak hp hS (by decide)) hE hM (by decide), hnf, hns⟩, (Ext.of_below _ HE.out).trans hE⟩

/-- What Copy leaves. -/
def Copied (w : World) (t : Tb) (e : Ending) (w' : World) : Prop := ∃ b, e = .returned (.pointer (some ⟨b, 0, none⟩)) ∧ w.heap.size ≤ b ∧ TbAt w' (fun k => w.heap.size ≤ k ∧ k ≠ b) b t ∧ Below w.heap.size w w'
set_option maxHeartbeats 3200000 in
set_option maxRecDepth 100000 in
theorem copy_all {w : World} {T : Nat → Prop} {b N : Nat} {t : Tb} (h : TbAt w T b t) (hok : t.Ok N) (hN : N ≤ 100000) :
    Calls Try.prog 21 #[.pointer (some ⟨b, 0, none⟩)] w (Copied w t) := by
  have hf0 := hok.f
  have hs0 := hok.s
  have hp0 := hok.pcs
  have hb := h.lt
  obtain ⟨vf, vs, vp, hB, hf, hs, hp, hnf, hns⟩ := h
  have HB := Lib.hid hB
  have Hf := Lib.hid hf
  have Hs := Lib.hid hs
  have Hp := Lib.hid hp
  obtain ⟨qf, cf, rfl⟩ := Rd.slice hf
  obtain ⟨qs, cs, rfl⟩ := Rd.slice hs
  obtain ⟨qp, cp, rfl⟩ := Rd.slice hp
  clear hB hf hs hp hnf hns hok
  go_enter Try.func21, Try.ntmps21
  go_wp2_with fail
  refine (tab_none HB.out).mono ?_
  rintro e w' ⟨rfl, rfl⟩
  go_wp2_with fail
  obtain ⟨m0, m1, m2, m3, -⟩ := HB.out.c5
  have hS : Hold4 (b, 0, .slice qf t.f.length cf) (b, 1, .slice qs t.s.length cs) (b, 2, .slice qp t.ps.length cp) (b, 3, .int .i64 (t.long : Int)) w.drew := ⟨m0, m1, m2, m3⟩
  have hT : Hold0 w.drew := trivial
  refine begin_D [] (by kernel_rfl) hS (fun _ => hT) ?_
  refine take_S (v := ?v0a) 0 rfl (by kernel_rfl) (by kernel_rfl) (by kernel_rfl) (by kernel_rfl) (fun _ _ _ h => h) hS (fun _ => trivial) rfl (fun w' hq => ?h0a) ?_
  case h0a => obtain ⟨hq0, hq1, hq2, hq3⟩ := hq; change _ = some _ at hq0; change _ = some _ at hq1; change _ = some _ at hq2; change _ = some _ at hq3; go_simp; try with_reducible rfl
  try simp only [Act.put, List.setIfInBounds_toArray, List.set_cons_zero, List.set_cons_succ, List.getElem_toArray, List.getElem_cons_succ, List.getElem_cons_zero]
  refine take_S (v := ?v1a) 1 rfl (by kernel_rfl) (by kernel_rfl) (by kernel_rfl) (by kernel_rfl) (fun _ _ _ h => h) hS (fun _ => trivial) rfl (fun w' hq => ?h1a) ?_
  case h1a => obtain ⟨hq0, hq1, hq2, hq3⟩ := hq; change _ = some _ at hq0; change _ = some _ at hq1; change _ = some _ at hq2; change _ = some _ at hq3; go_simp; try with_reducible rfl
  try simp only [Act.put, List.setIfInBounds_toArray, List.set_cons_zero, List.set_cons_succ, List.getElem_toArray, List.getElem_cons_succ, List.getElem_cons_zero]
  refine take_S (v := ?v2a) 2 rfl (by kernel_rfl) (by kernel_rfl) (by kernel_rfl) (by kernel_rfl) (fun _ _ _ h => h) hS (fun _ => trivial) rfl (fun w' hq => ?h2a) ?_
  case h2a => obtain ⟨hq0, hq1, hq2, hq3⟩ := hq; change _ = some _ at hq0; change _ = some _ at hq1; change _ = some _ at hq2; change _ = some _ at hq3; go_simp; try with_reducible rfl
  try simp only [Act.put, List.setIfInBounds_toArray, List.set_cons_zero, List.set_cons_succ, List.getElem_toArray, List.getElem_cons_succ, List.getElem_cons_zero]
  refine take_S (v := ?v3a) 3 rfl (by kernel_rfl) (by kernel_rfl) (by kernel_rfl) (by kernel_rfl) (fun _ _ _ h => h) hS (fun _ => trivial) rfl (fun w' hq => ?h3a) ?_
  case h3a => obtain ⟨hq0, hq1, hq2, hq3⟩ := hq; change _ = some _ at hq0; change _ = some _ at hq1; change _ = some _ at hq2; change _ = some _ at hq3; go_simp; try with_reducible rfl
  try simp only [Act.put, List.setIfInBounds_toArray, List.set_cons_zero, List.set_cons_succ, List.getElem_toArray, List.getElem_cons_succ, List.getElem_cons_zero]
  refine take_S (v := ?v5a) 5 rfl (by kernel_rfl) (by kernel_rfl) (by kernel_rfl) (by kernel_rfl) (fun _ _ _ h => h) hS (fun _ => trivial) rfl (fun w' hq => ?h5a) ?_
  case h5a => obtain ⟨hq0, hq1, hq2, hq3⟩ := hq; change _ = some _ at hq0; change _ = some _ at hq1; change _ = some _ at hq2; change _ = some _ at hq3; go_simp; try with_reducible rfl
  try simp only [Act.put, List.setIfInBounds_toArray, List.set_cons_zero, List.set_cons_succ, List.getElem_toArray, List.getElem_cons_succ, List.getElem_cons_zero]
  refine take_S (v := ?v6a) 6 rfl (by kernel_rfl) (by kernel_rfl) (by kernel_rfl) (by kernel_rfl) (fun _ _ _ h => h) hS (fun _ => trivial) rfl (fun w' hq => ?h6a) ?_
  case h6a => obtain ⟨hq0, hq1, hq2, hq3⟩ := hq; change _ = some _ at hq0; change _ = some _ at hq1; change _ = some _ at hq2; change _ = some _ at hq3; go_simp; try with_reducible rfl
  try simp only [Act.put, List.setIfInBounds_toArray, List.set_cons_zero, List.set_cons_succ, List.getElem_toArray, List.getElem_cons_succ, List.getElem_cons_zero]
  refine take_S (v := ?v7a) 7 rfl (by kernel_rfl) (by kernel_rfl) (by kernel_rfl) (by kernel_rfl) (fun _ _ _ h => h) hS (fun _ => trivial) rfl (fun w' hq => ?h7a) ?_
  case h7a => obtain ⟨hq0, hq1, hq2, hq3⟩ := hq; change _ = some _ at hq0; change _ = some _ at hq1; change _ = some _ at hq2; change _ = some _ at hq3; go_simp; try with_reducible rfl
  try simp only [Act.put, List.setIfInBounds_toArray, List.set_cons_zero, List.set_cons_succ, List.getElem_toArray, List.getElem_cons_succ, List.getElem_cons_zero]
  refine take_S (v := ?v8a) 8 rfl (by kernel_rfl) (by kernel_rfl) (by kernel_rfl) (by kernel_rfl) (fun _ _ _ h => h) hS (fun _ => trivial) rfl (fun w' hq => ?h8a) ?_
  case h8a => obtain ⟨hq0, hq1, hq2, hq3⟩ := hq; change _ = some _ at hq0; change _ = some _ at hq1; change _ = some _ at hq2; change _ = some _ at hq3; go_simp; try with_reducible rfl
  try simp only [Act.put, List.setIfInBounds_toArray, List.set_cons_zero, List.set_cons_succ, List.getElem_toArray, List.getElem_cons_succ, List.getElem_cons_zero]
  refine take_S (v := ?v10a) 10 rfl (by kernel_rfl) (by kernel_rfl) (by kernel_rfl) (by kernel_rfl) (fun _ _ _ h => h) hS (fun _ => trivial) rfl (fun w' hq => ?h10a) ?_
  case h10a => obtain ⟨hq0, hq1, hq2, hq3⟩ := hq; change _ = some _ at hq0; change _ = some _ at hq1; change _ = some _ at hq2; change _ = some _ at hq3; go_simp; try with_reducible rfl
  try simp only [Act.put, List.setIfInBounds_toArray, List.set_cons_zero, List.set_cons_succ, List.getElem_toArray, List.getElem_cons_succ, List.getElem_cons_zero]
  refine take_S (v := ?v11a) 11 rfl (by kernel_rfl) (by kernel_rfl) (by kernel_rfl) (by kernel_rfl) (fun _ _ _ h => h) hS (fun _ => trivial) rfl (fun w' hq => ?h11a) ?_
  case h11a => obtain ⟨hq0, hq1, hq2, hq3⟩ := hq; change _ = some _ at hq0; change _ = some _ at hq1; change _ = some _ at hq2; change _ = some _ at hq3; go_simp; try with_reducible rfl
  try simp only [Act.put, List.setIfInBounds_toArray, List.set_cons_zero, List.set_cons_succ, List.getElem_toArray, List.getElem_cons_succ, List.getElem_cons_zero]
  refine take_S (v := ?v12a) 12 rfl (by kernel_rfl) (by kernel_rfl) (by kernel_rfl) (by kernel_rfl) (fun _ _ _ h => h) hS (fun _ => trivial) rfl (fun w' hq => ?h12a) ?_
  case h12a => obtain ⟨hq0, hq1, hq2, hq3⟩ := hq; change _ = some _ at hq0; change _ = some _ at hq1; change _ = some _ at hq2; change _ = some _ at hq3; go_simp; try with_reducible rfl
  try simp only [Act.put, List.setIfInBounds_toArray, List.set_cons_zero, List.set_cons_succ, List.getElem_toArray, List.getElem_cons_succ, List.getElem_cons_zero]
  refine take_S (v := ?v13a) 13 rfl (by kernel_rfl) (by kernel_rfl) (by kernel_rfl) (by kernel_rfl) (fun _ _ _ h => h) hS (fun _ => trivial) rfl (fun w' hq => ?h13a) ?_
  case h13a => obtain ⟨hq0, hq1, hq2, hq3⟩ := hq; change _ = some _ at hq0; change _ = some _ at hq1; change _ = some _ at hq2; change _ = some _ at hq3; go_simp; try with_reducible rfl
  try simp only [Act.put, List.setIfInBounds_toArray, List.set_cons_zero, List.set_cons_succ, List.getElem_toArray, List.getElem_cons_succ, List.getElem_cons_zero]
  refine take_S (v := ?v15a) 15 rfl (by kernel_rfl) (by kernel_rfl) (by kernel_rfl) (by kernel_rfl) (fun _ _ _ h => h) hS (fun _ => trivial) rfl (fun w' hq => ?h15a) ?_
  case h15a => obtain ⟨hq0, hq1, hq2, hq3⟩ := hq; change _ = some _ at hq0; change _ = some _ at hq1; change _ = some _ at hq2; change _ = some _ at hq3; go_simp; try with_reducible rfl
  try simp only [Act.put, List.setIfInBounds_toArray, List.set_cons_zero, List.set_cons_succ, List.getElem_toArray, List.getElem_cons_succ, List.getElem_cons_zero]
  refine take_S (v := ?v16a) 16 rfl (by kernel_rfl) (by kernel_rfl) (by kernel_rfl) (by kernel_rfl) (fun _ _ _ h => h) hS (fun _ => trivial) rfl (fun w' hq => ?h16a) ?_
  case h16a => obtain ⟨hq0, hq1, hq2, hq3⟩ := hq; change _ = some _ at hq0; change _ = some _ at hq1; change _ = some _ at hq2; change _ = some _ at hq3; go_simp; try with_reducible rfl
  try simp only [Act.put, List.setIfInBounds_toArray, List.set_cons_zero, List.set_cons_succ, List.getElem_toArray, List.getElem_cons_succ, List.getElem_cons_zero]
  refine take_S (v := ?v17a) 17 rfl (by kernel_rfl) (by kernel_rfl) (by kernel_rfl) (by kernel_rfl) (fun _ _ _ h => h) hS (fun _ => trivial) rfl (fun w' hq => ?h17a) ?_
  case h17a => obtain ⟨hq0, hq1, hq2, hq3⟩ := hq; change _ = some _ at hq0; change _ = some _ at hq1; change _ = some _ at hq2; change _ = some _ at hq3; go_simp; try with_reducible rfl
  try simp only [Act.put, List.setIfInBounds_toArray, List.set_cons_zero, List.set_cons_succ, List.getElem_toArray, List.getElem_cons_succ, List.getElem_cons_zero]
  refine take_S (v := ?v18a) 18 rfl (by kernel_rfl) (by kernel_rfl) (by kernel_rfl) (by kernel_rfl) (fun _ _ _ h => h) hS (fun _ => trivial) rfl (fun w' hq => ?h18a) ?_
  case h18a => obtain ⟨hq0, hq1, hq2, hq3⟩ := hq; change _ = some _ at hq0; change _ = some _ at hq1; change _ = some _ at hq2; change _ = some _ at hq3; go_simp; try with_reducible rfl
  try simp only [Act.put, List.setIfInBounds_toArray, List.set_cons_zero, List.set_cons_succ, List.getElem_toArray, List.getElem_cons_succ, List.getElem_cons_zero]
  refine one_D 4 rfl (by kernel_rfl) (fun KQ hK => ?_)
  go_simp
  refine (slices_Clone_C (Rd.drew Hf.out) (ccells_one t.f) (by omega)).mono ?_
  rintro x w1 ⟨p1, c1, rfl, ho1, hX1⟩
  have HO1 := Lib.hid (show CharOwn w1 w.heap.size (.slice p1 t.f.length c1) t.f from ho1)
  have HX1 := Lib.hid (show Below w.heap.size w w1 from (Below.refl w.heap.size w).drew.trans hX1)
  obtain ⟨g0, g1, g2, g3, -⟩ := (HB.out.below HX1.out).c5
  have hS1 : Hold4 (b, 0, .slice qf t.f.length cf) (b, 1, .slice qs t.s.length cs) (b, 2, .slice qp t.ps.length cp) (b, 3, .int .i64 (t.long : Int)) w1 := ⟨g0, g1, g2, g3⟩
  refine hK.out _ _ hS1 (fun _ => trivial) ?_
  clear hK ho1 hX1 g0 g1 g2 g3 m0 m1 m2 m3
  refine one_D 9 rfl (by kernel_rfl) (fun KQ hK => ?_)
  go_simp
  refine (slices_Clone_C (Rd.below Hs.out (by decide) HX1.out) (ccells_one t.s) (by omega)).mono ?_
  rintro x w2 ⟨p2, c2, rfl, ho2, hX2⟩
  have HO2 := Lib.hid (show CharOwn w2 w1.heap.size (.slice p2 t.s.length c2) t.s from ho2)
  have HY2 := Lib.hid hX2
  have HX2 := Lib.hid (HX1.out.trans (hX2.mono HX1.out.size))
  obtain ⟨g0, g1, g2, g3, -⟩ := (HB.out.below HX2.out).c5
  have hS2 : Hold4 (b, 0, .slice qf t.f.length cf) (b, 1, .slice qs t.s.length cs) (b, 2, .slice qp t.ps.length cp) (b, 3, .int .i64 (t.long : Int)) w2 := ⟨g0, g1, g2, g3⟩
  refine hK.out _ _ hS2 (fun _ => trivial) ?_
  clear hK ho2 hX2 g0 g1 g2 g3
  refine one_D 14 rfl (by kernel_rfl) (fun KQ hK => ?_)
  go_simp
  refine (slices_Clone_P (Rd.below Hp.out (by decide) HX2.out) (pcells_one t.ps) (by omega)).mono ?_
  rintro x w3 ⟨p3, c3, rfl, ho3, hX3⟩
  have HO3 := Lib.hid (show PcsOwn w3 w2.heap.size (.slice p3 t.ps.length c3) t.ps from ho3)
  have HY3 := Lib.hid hX3
  have HX3 := Lib.hid (HX2.out.trans (hX3.mono HX2.out.size))
  obtain ⟨g0, g1, g2, g3, -⟩ := (HB.out.below HX3.out).c5
  have hS3 : Hold4 (b, 0, .slice qf t.f.length cf) (b, 1, .slice qs t.s.length cs) (b, 2, .slice qp t.ps.length cp) (b, 3, .int .i64 (t.long : Int)) w3 := ⟨g0, g1, g2, g3⟩
  refine hK.out _ _ hS3 (fun _ => trivial) ?_
  clear hK ho3 hX3 g0 g1 g2 g3
  refine take_S (v := (.agg #[.slice p1 t.f.length c1, .slice p2 t.s.length c2, .slice p3 t.ps.length c3, .int .i64 (t.long : Int), .bool true])) 19 rfl (by kernel_rfl) (by kernel_rfl) (by kernel_rfl) (by kernel_rfl) (fun _ _ _ h => h) hS3 (fun _ => trivial) rfl (fun w' hq => ?h19b) ?_
  case h19b => obtain ⟨hq0, hq1, hq2, hq3⟩ := hq; change _ = some _ at hq0; change _ = some _ at hq1; change _ = some _ at hq2; change _ = some _ at hq3; go_simp; try with_reducible rfl
  try simp only [Act.put, List.setIfInBounds_toArray, List.set_cons_zero, List.set_cons_succ, List.getElem_toArray, List.getElem_cons_succ, List.getElem_cons_zero]
  refine one_D 20 rfl (by kernel_rfl) (fun KQ hK => ?_)
  go_simp
  have hXA := HX3.out.alloc HX3.out.size (.cells #[.slice p1 t.f.length c1, .slice p2 t.s.length c2, .slice p3 t.ps.length c3, .int .i64 (t.long : Int), .bool true] 63)
  obtain ⟨g0, g1, g2, g3, -⟩ := (HB.out.below hXA).c5
  have hS4 : Hold4 (b, 0, .slice qf t.f.length cf) (b, 1, .slice qs t.s.length cs) (b, 2, .slice qp t.ps.length cp) (b, 3, .int .i64 (t.long : Int)) (w3.alloc (.cells #[.slice p1 t.f.length c1, .slice p2 t.s.length c2, .slice p3 t.ps.length c3, .int .i64 (t.long : Int), .bool true] 63)) := ⟨g0, g1, g2, g3⟩
  refine hK.out _ _ hS4 (fun _ => trivial) ?_
  clear hK g0 g1 g2 g3
  refine take_S (v := ?v21c) 21 rfl (by kernel_rfl) (by kernel_rfl) (by kernel_rfl) (by kernel_rfl) (fun _ _ _ h => h) hS4 (fun _ => trivial) rfl (fun w' hq => ?h21c) ?_
  case h21c => obtain ⟨hq0, hq1, hq2, hq3⟩ := hq; change _ = some _ at hq0; change _ = some _ at hq1; change _ = some _ at hq2; change _ = some _ at hq3; go_simp; try with_reducible rfl
  try simp only [Act.put, List.setIfInBounds_toArray, List.set_cons_zero, List.set_cons_succ, List.getElem_toArray, List.getElem_cons_succ, List.getElem_cons_zero]
  refine done_D (by kernel_rfl) ?_ _
  go_wp2_with fail
  go_ret
  have hNB := Blk.new w3 63 #[.slice p1 t.f.length c1, .slice p2 t.s.length c2, .slice p3 t.ps.length c3, .int .i64 (t.long : Int), .bool true]
  have hbN := (Below.refl w3.heap.size w3).alloc (Nat.le_refl _) (.cells #[.slice p1 t.f.length c1, .slice p2 t.s.length c2, .slice p3 t.ps.length c3, .int .i64 (t.long : Int), .bool true] 63)
  have z1 := HX1.out.size
  have z2 := HY2.out.size
  have z3 := HY3.out.size
  have k1 : CharRd w3 (fun k => w.heap.size ≤ k ∧ k ≠ w3.heap.size) (.slice p1 t.f.length c1) t.f := Rd.weak (Rd.below (Rd.below HO1.out.rd (by decide) HY2.out) (by decide) HY3.out) (fun k hk hl => by omega) (by decide)
  have k2 : CharRd w3 (fun k => w.heap.size ≤ k ∧ k ≠ w3.heap.size) (.slice p2 t.s.length c2) t.s := Rd.weak (Rd.below HO2.out.rd (by decide) HY3.out) (fun k hk hl => by omega) (by decide)
  have k3 : PcsRd w3 (fun k => w.heap.size ≤ k ∧ k ≠ w3.heap.size) (.slice p3 t.ps.length c3) t.ps := Rd.weak HO3.out.rd (fun k hk hl => by omega) (by decide)
  exact ⟨_, rfl, HX3.out.size, ⟨_, _, _, hNB, k1.below hbN, k2.below hbN, k3.below hbN, NilOk.own HO1.out, NilOk.own HO2.out⟩, hXA⟩
end Go.Proofs.Ytelaiafpfaohfaa
