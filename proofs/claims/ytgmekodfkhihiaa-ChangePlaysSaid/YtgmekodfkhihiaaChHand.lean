/-
  Change: the contract of Hand. (Printed by wip/gen_chhand.py.)
-/
import Derived.Test.YtgmekodfkhihiaaChOwn
namespace Go.Proofs.Ytgmekodfkhihiaa
open Go.RowKit Go.Maps
set_option linter.unusedSimpArgs false
set_option linter.unusedVariables false

/-- Four cells laid anew. -/
def set4 (cs : List Value) (k : Nat) (a b c d : Value) : List Value := (((cs.set (k * 4) a).set (k * 4 + 1) b).set (k * 4 + 2) c).set (k * 4 + 3) d
theorem set4_len (cs : List Value) (k : Nat) (a b c d : Value) : (set4 cs k a b c d).length = cs.length := by simp [set4]
theorem set4_other {cs : List Value} {i k : Nat} {a b c d : Value} (h : i ≠ k) : ((set4 cs k a b c d).drop (i * 4)).take 4 = (cs.drop (i * 4)).take 4 := by
  refine List.ext_getElem? fun j => ?_
  rw [List.getElem?_take, List.getElem?_take]
  split
  · unfold set4
    rw [List.getElem?_drop, List.getElem?_drop, List.getElem?_set_ne (by omega), List.getElem?_set_ne (by omega), List.getElem?_set_ne (by omega), List.getElem?_set_ne (by omega)]
  · rfl
theorem set4_same {cs : List Value} {k : Nat} {a b c d : Value} (h : k * 4 + 4 ≤ cs.length) : ((set4 cs k a b c d).drop (k * 4)).take 4 = [a, b, c, d] := by
  refine List.ext_getElem? fun j => ?_
  rw [List.getElem?_take]
  split
  · rename_i hj4
    rw [List.getElem?_drop]
    unfold set4
    match j, hj4 with
    | 0, _ => rw [List.getElem?_set_ne (by omega), List.getElem?_set_ne (by omega), List.getElem?_set_ne (by omega), Nat.add_zero, List.getElem?_set_self (by first | omega | (simp; omega))]; rfl
    | 1, _ => rw [List.getElem?_set_ne (by omega), List.getElem?_set_ne (by omega), List.getElem?_set_self (by first | omega | (simp; omega))]; rfl
    | 2, _ => rw [List.getElem?_set_ne (by omega), List.getElem?_set_self (by first | omega | (simp; omega))]; rfl
    | 3, _ => rw [List.getElem?_set_self (by first | omega | (simp; omega))]; rfl
  · rw [List.getElem?_eq_none (by simp; omega)]
theorem Els.set4_ {α : Type} {R : List Value → α → Prop} {cs : List Value} {xs : List α} {k : Nat} {a b c d : Value} {x : α} (h : Els R 4 cs xs) (hk : k < xs.length) (hx : R [a, b, c, d] x) : Els R 4 (set4 cs k a b c d) (xs.set k x) := by
  refine ⟨by rw [set4_len, List.length_set]; exact h.1, fun i y hy => ?_⟩
  by_cases hik : i = k
  · subst hik
    rw [List.getElem?_set_self hk] at hy
    injection hy with hy
    subst hy
    rw [set4_same (by have := h.1; omega)]
    exact hx
  · rw [List.getElem?_set_ne (fun e => hik e.symm)] at hy
    rw [set4_other hik]
    exact h.2 i y hy
theorem chc_set (n me v : Int) (vb : Nat) (pcs : List Value) (j : Nat) (u : Value) : (chc n me v vb pcs).setIfInBounds (4 + j) u = chc n me v vb (pcs.set j u) := by
  unfold chc
  rw [List.setIfInBounds_toArray]
  rw [show 4 + j = j + 1 + 1 + 1 + 1 by omega]
  simp only [List.set_cons_succ]
theorem chc_set4 {w : World} {cb vb k : Nat} {n me v : Int} {pcs : List Value} {t : TypeId} {a b c d : Value} (h : Blk w cb t (chc n me v vb pcs)) :
    Blk ((((w.setCell ⟨cb, 4 + k * 4, none⟩ a).setCell ⟨cb, 4 + k * 4 + 1, none⟩ b).setCell ⟨cb, 4 + k * 4 + 2, none⟩ c).setCell ⟨cb, 4 + k * 4 + 3, none⟩ d) cb t (chc n me v vb (set4 pcs k a b c d)) := by
  have h1 := (((h.set_ (4 + k * 4) a).set_ (4 + k * 4 + 1) b).set_ (4 + k * 4 + 2) c).set_ (4 + k * 4 + 3) d
  rw [chc_set, Nat.add_assoc 4 (k * 4) 1, chc_set, Nat.add_assoc 4 (k * 4) 2, chc_set, Nat.add_assoc 4 (k * 4) 3, chc_set] at h1
  exact h1
theorem Ext.sets4 {M : Nat → Prop} {w w' : World} {g i j k l : Nat} (h : Ext M w w') (hg : M g) {a0 a1 a2 a3 : Value} : Ext M w ((((w'.setCell ⟨g, i, none⟩ a0).setCell ⟨g, j, none⟩ a1).setCell ⟨g, k, none⟩ a2).setCell ⟨g, l, none⟩ a3) :=
  (((h.setCell (p := ⟨g, i, none⟩) (.inl hg) a0).setCell (p := ⟨g, j, none⟩) (.inl hg) a1).setCell (p := ⟨g, k, none⟩) (.inl hg) a2).setCell (p := ⟨g, l, none⟩) (.inl hg) a3
theorem EntsRd.drew_ {w : World} {S : Nat → Prop} {v : Value} {es : List Ent} (h : EntsRd w S v es) : EntsRd w.drew S v es := h.below (Below.refl _ w).drew
section
variable {w : World} {S : Nat → Prop} {cb vb g : Nat} {n me v : Int} {t h : List Bool} {ps : List Pk}
/-- The k-th pack. -/
theorem ChAt.pack (H : ChAt w S cb vb g n me v t h ps) {k : Nat} (hk : k < 7) : ∃ s, w.cell? ⟨cb, 4 + k * 4, none⟩ = some (.int .u64 (ps[k]'(by rw [H.len]; exact hk)).l) ∧ w.cell? ⟨cb, 4 + k * 4 + 1, none⟩ = some (.int .u64 (ps[k]'(by rw [H.len]; exact hk)).b) ∧
    w.cell? ⟨cb, 4 + k * 4 + 2, none⟩ = some (.int .u64 (ps[k]'(by rw [H.len]; exact hk)).c) ∧ w.cell? ⟨cb, 4 + k * 4 + 3, none⟩ = some s ∧ EntsRd w S s (ps[k]'(by rw [H.len]; exact hk)).es := by
  have hk7 : k < ps.length := by rw [H.len]; exact hk
  obtain ⟨⟨pcs, hB, hP⟩, -⟩ := H
  obtain ⟨s, hs, hE⟩ := hP.2 k ps[k] (List.getElem?_eq_getElem hk7)
  obtain ⟨h0, h1, h2, h3⟩ := four_at hs
  have hc : ∀ i u, pcs[i]? = some u → w.cell? ⟨cb, 4 + i, none⟩ = some u := fun i u hu => by
    rw [hB.cell]
    unfold chc
    rw [List.getElem?_toArray, show 4 + i = i + 1 + 1 + 1 + 1 by omega]
    simp only [List.getElem?_cons_succ]
    exact hu
  exact ⟨s, hc _ _ h0, hc _ _ h1, hc _ _ h2, hc _ _ h3, hE⟩
theorem More.nn {S : Nat → Prop} {w w' : World} {b : Nat} (hS : ¬ S b) (hb : b < w.heap.size) : ¬ More S w w' b := by
  rintro (h | h)
  · exact hS h.1
  · omega
/-- A pack is laid anew. -/
theorem ChAt.laid {w1 : World} {k : Nat} {l b c : Int} {s : Value} {es : List Ent} {lo : Nat} (H : ChAt w S cb vb g n me v t h ps) (hk : k < 7) (hb : Below w.heap.size w w1) (hs : EntsOwn w1 lo s es) (hlo : w.heap.size ≤ lo) (hS : ∀ j, S j → j < w.heap.size) :
    ChAt ((((w1.setCell ⟨cb, 4 + k * 4, none⟩ (.int .u64 l)).setCell ⟨cb, 4 + k * 4 + 1, none⟩ (.int .u64 b)).setCell ⟨cb, 4 + k * 4 + 2, none⟩ (.int .u64 c)).setCell ⟨cb, 4 + k * 4 + 3, none⟩ s)
      (More S w ((((w1.setCell ⟨cb, 4 + k * 4, none⟩ (.int .u64 l)).setCell ⟨cb, 4 + k * 4 + 1, none⟩ (.int .u64 b)).setCell ⟨cb, 4 + k * 4 + 2, none⟩ (.int .u64 c)).setCell ⟨cb, 4 + k * 4 + 3, none⟩ s)) cb vb g n me v t h (ps.set k ⟨l, b, c, es⟩) := by
  have hne := H.ne
  have hlt := H.lt
  have H1 := H.below hb
  obtain ⟨⟨pcs, hB, hP⟩, hl, hv, hnS⟩ := H1
  have hE : Ext (fun j => j = cb) w1 ((((w1.setCell ⟨cb, 4 + k * 4, none⟩ (.int .u64 l)).setCell ⟨cb, 4 + k * 4 + 1, none⟩ (.int .u64 b)).setCell ⟨cb, 4 + k * 4 + 2, none⟩ (.int .u64 c)).setCell ⟨cb, 4 + k * 4 + 3, none⟩ s) := (Ext.refl (fun j => j = cb) w1).sets4 rfl
  have hz := hE.size
  have hz1 := hb.size
  refine ⟨⟨_, chc_set4 hB, ?_⟩, by rw [List.length_set]; exact hl, hv.ext hE hne.1.symm hne.2.1.symm, More.nn hnS.1 hlt.1, More.nn hnS.2.1 hlt.2.1, More.nn hnS.2.2 hlt.2.2⟩
  refine Els.set4_ (hP.keep (fun j hj hSj => hE.block j hj (fun e => hnS.1 (e ▸ hSj))) (fun j hSj _ => .inl ⟨hSj, hS j hSj⟩)) (by rw [hl]; exact hk) ⟨s, rfl, ?_⟩
  exact hs.rd.keep (fun j hj hSj => hE.block j hj (fun e => by have := hSj.1; omega)) (fun j hSj _ => .inr ⟨by have := hSj.1; omega, by omega⟩)

set_option maxHeartbeats 6400000 in
set_option maxRecDepth 100000 in
theorem ch_Hand {T : Nat → Prop} {l b c : Int} {s : Value} {es : List Ent} {h' : List Bool} {k : Nat} (H : ChAt w S cb vb g n me v t h ps) (hk : NumOk n me) (hkn : (k : Int) < n) (hs : EntsRd w T s es) (hf : Fits es) (hT : ∀ j, T j → j < w.heap.size) (hTg : ¬ T g) (hS : ∀ j, S j → j < w.heap.size) (hm : mayB l b c es = true) (hb0 : 0 ≤ b) (hn64 : es.length ≤ 1152921504606846976) (hh : h.set k true = h') :
    Calls Try.prog 10 #[.pointer (some ⟨cb, 0, none⟩), .int .u64 v, .int .i64 (k : Int), .agg #[.int .u64 l, .int .u64 b, .int .u64 c, s]] w fun x w' => x = .returned (.tuple #[.bool (justB h h' (n / 2 + 1)), .int .i64 0]) ∧
      ChAt w' (More S w w') cb vb g n me v t h' (ps.set k ⟨l, b, c, es⟩) ∧ Ext (fun j => j = cb ∨ j = g) w w' := by
  obtain ⟨cs, hr, -⟩ := id hs
  obtain ⟨p0, c0, rfl⟩ := Rd.slice hr
  obtain ⟨hn, m0, m1⟩ := hk
  have hlen : es.length ≤ 64 := by unfold mayB at hm; simp at hm; omega
  have hX := (Below.refl w.heap.size w).alloc (Nat.le_refl _) (.cells #[.int .u64 l, .int .u64 b, .int .u64 c, .slice p0 es.length c0] 35)
  have kM := Blk.new w 35 #[.int .u64 l, .int .u64 b, .int .u64 c, .slice p0 es.length c0]
  have d1 : decide ((k : Int) < 0) = false := by simp
  have d2 : decide (n ≤ (k : Int)) = false := by simp; omega
  have HH := Lib.hid (H.below hX)
  have Hw := Lib.hid H
  have HX := Lib.hid hX
  have KM := Lib.hid kM
  have Hs := Lib.hid (hs.below hX)
  have Hf := Lib.hid hf
  have HT := Lib.hid hT
  have HS := Lib.hid hS
  have Hm := Lib.hid hm
  have Hh := Lib.hid hh
  obtain ⟨a0, a1, a2, a3, -, hz⟩ := HH.out.cells
  obtain ⟨q0, q1, q2, q3, -⟩ := kM.c4
  have hz0 := kM.lt
  clear H hr hs hX kM hf hT hS hm hh
  go_enter Try.func10, Try.ntmps10
  go_wp2_with fail
  generalize w.alloc (.cells #[.int .u64 l, .int .u64 b, .int .u64 c, .slice p0 es.length c0] 35) = W at *
  refine (ch_none HH.out).mono ?_
  rintro x _ ⟨rfl, rfl⟩
  go_wp2_with fail
  refine (pack_May (a := l) (b := b) (c := c) Hs.out hn64 hb0).mono ?_
  rintro x w1 ⟨rfl, hb⟩
  rw [Hm.out]
  have HH1 := Lib.hid (HH.out.below hb)
  have KM1 := Lib.hid (KM.out.below hb)
  have Hs1 := Lib.hid (Hs.out.below hb)
  have HX1 := Lib.hid (HX.out.trans (hb.mono HX.out.size))
  clear hb HH KM Hs HX a0 a1 a2 a3 hz q0 q1 q2 q3 hz0
  obtain ⟨a0, a1, a2, a3, -, hz⟩ := HH1.out.cells
  go_wp2_with fail
  refine (votes_Most (by omega) (by omega)).mono ?_
  rintro x _ ⟨rfl, rfl⟩
  go_wp2_with fail
  refine (ch_vote (kd := 2) (many := n / 2 + 1) HH1.out (.inr rfl) hkn (by omega) (l := h) rfl Hh.out).mono ?_
  rintro x w2 ⟨rfl, hC, hE⟩
  have HC := Lib.hid (show ChAt w2 S cb vb g n me v t h' ps from hC)
  have HE := Lib.hid hE
  have KM2 := Lib.hid (KM1.out.ext hE (by have := Hw.out.lt; omega))
  have Hs2 := Lib.hid (Hs1.out.keep (S' := T) (fun j hj hTj => hE.block j hj (fun e => hTg (e ▸ hTj))) (fun j hj _ => hj))
  have HX2 := Lib.hid ((Ext.of_below (fun j => j = cb ∨ j = g) HX1.out).trans (hE.mono (fun _ _ h => .inr h)))
  have Hz2 := Lib.hid (show w1.heap.size ≤ w2.heap.size from hE.size)
  clear hC hE a0 a1 a2 a3 hz HH1 KM1 Hs1
  go_upto_region 7 with fail
  have hS0 : Holds [(w.heap.size, 0, .int .u64 l), (w.heap.size, 1, .int .u64 b), (w.heap.size, 2, .int .u64 c), (w.heap.size, 3, .slice p0 es.length c0)] w2.drew := ⟨KM2.out.cell 0, KM2.out.cell 1, KM2.out.cell 2, KM2.out.cell 3, trivial⟩
  refine begin_D (T := Hold0) [] (by kernel_rfl) hS0 (fun _ => trivial) ?_
  refine take_S (v := ?v0a) 0 rfl (by kernel_rfl) (by kernel_rfl) (by kernel_rfl) (by kernel_rfl) (fun _ _ _ h => h) hS0 (fun _ => trivial) rfl (fun w' hq => ?h0a) ?_
  case h0a => obtain ⟨hq0, hq1, hq2, hq3, -⟩ := hq; change _ = some _ at hq0; change _ = some _ at hq1; change _ = some _ at hq2; change _ = some _ at hq3; go_simp; try with_reducible rfl
  try simp only [Act.put, List.setIfInBounds_toArray, List.set_cons_zero, List.set_cons_succ, List.getElem_toArray, List.getElem_cons_succ, List.getElem_cons_zero]
  refine take_S (v := ?v1a) 1 rfl (by kernel_rfl) (by kernel_rfl) (by kernel_rfl) (by kernel_rfl) (fun _ _ _ h => h) hS0 (fun _ => trivial) rfl (fun w' hq => ?h1a) ?_
  case h1a => obtain ⟨hq0, hq1, hq2, hq3, -⟩ := hq; change _ = some _ at hq0; change _ = some _ at hq1; change _ = some _ at hq2; change _ = some _ at hq3; go_simp; try with_reducible rfl
  try simp only [Act.put, List.setIfInBounds_toArray, List.set_cons_zero, List.set_cons_succ, List.getElem_toArray, List.getElem_cons_succ, List.getElem_cons_zero]
  refine take_S (v := ?v2a) 2 rfl (by kernel_rfl) (by kernel_rfl) (by kernel_rfl) (by kernel_rfl) (fun _ _ _ h => h) hS0 (fun _ => trivial) rfl (fun w' hq => ?h2a) ?_
  case h2a => obtain ⟨hq0, hq1, hq2, hq3, -⟩ := hq; change _ = some _ at hq0; change _ = some _ at hq1; change _ = some _ at hq2; change _ = some _ at hq3; go_simp; try with_reducible rfl
  try simp only [Act.put, List.setIfInBounds_toArray, List.set_cons_zero, List.set_cons_succ, List.getElem_toArray, List.getElem_cons_succ, List.getElem_cons_zero]
  refine take_S (v := ?v4a) 4 rfl (by kernel_rfl) (by kernel_rfl) (by kernel_rfl) (by kernel_rfl) (fun _ _ _ h => h) hS0 (fun _ => trivial) rfl (fun w' hq => ?h4a) ?_
  case h4a => obtain ⟨hq0, hq1, hq2, hq3, -⟩ := hq; change _ = some _ at hq0; change _ = some _ at hq1; change _ = some _ at hq2; change _ = some _ at hq3; go_simp; try with_reducible rfl
  try simp only [Act.put, List.setIfInBounds_toArray, List.set_cons_zero, List.set_cons_succ, List.getElem_toArray, List.getElem_cons_succ, List.getElem_cons_zero]
  refine take_S (v := ?v5a) 5 rfl (by kernel_rfl) (by kernel_rfl) (by kernel_rfl) (by kernel_rfl) (fun _ _ _ h => h) hS0 (fun _ => trivial) rfl (fun w' hq => ?h5a) ?_
  case h5a => obtain ⟨hq0, hq1, hq2, hq3, -⟩ := hq; change _ = some _ at hq0; change _ = some _ at hq1; change _ = some _ at hq2; change _ = some _ at hq3; go_simp; try with_reducible rfl
  try simp only [Act.put, List.setIfInBounds_toArray, List.set_cons_zero, List.set_cons_succ, List.getElem_toArray, List.getElem_cons_succ, List.getElem_cons_zero]
  refine one_D 3 rfl (by kernel_rfl) (fun KQ hK => ?_)
  go_simp
  refine (ch_own (S := T) Hs2.out.drew_ Hf.out (by omega) (fun j hj => by have := HT.out j hj; have := HX2.out.size; show j < w2.heap.size; omega)).mono ?_
  rintro x w3 ⟨p3, c3, rfl, ho3, hb3⟩
  have hb : Below w2.heap.size w2 w3 := (Below.refl _ w2).drew.trans hb3
  have hS3 : Holds [(w.heap.size, 0, .int .u64 l), (w.heap.size, 1, .int .u64 b), (w.heap.size, 2, .int .u64 c), (w.heap.size, 3, .slice p0 es.length c0)] w3 := Holds.below_ hS0 hb3
  have hX3 : Ext (fun j => j = cb ∨ j = g) w w3 := HX2.out.trans (Ext.of_below _ hb)
  obtain ⟨s0, z0, z1, z2, z3, -⟩ := (HC.out.below hb).pack (k := k) (by omega)
  obtain ⟨y0, e0⟩ : ∃ y, w3.cell? ⟨cb, 4 + k * 4, none⟩ = some y := ⟨_, z0⟩
  obtain ⟨y1, e1⟩ : ∃ y, w3.cell? ⟨cb, 4 + k * 4 + 1, none⟩ = some y := ⟨_, z1⟩
  obtain ⟨y2, e2⟩ : ∃ y, w3.cell? ⟨cb, 4 + k * 4 + 2, none⟩ = some y := ⟨_, z2⟩
  clear z0 z1 z2
  obtain ⟨-, -, -, -, hfz, hzz⟩ := (HC.out.below hb).cells
  have f0 := hfz (4 + k * 4)
  have f1 := hfz (4 + k * 4 + 1)
  have f2 := hfz (4 + k * 4 + 2)
  have f3 := hfz (4 + k * 4 + 3)
  have hne : w.heap.size ≠ cb := by have := Hw.out.lt; omega
  have hlaid := HC.out.laid (l := l) (b := b) (c := c) (k := k) (by omega) hb ho3 (Nat.le_refl _) (fun j hj => by have := HS.out j hj; have := HX2.out.size; omega)
  have HL := Lib.hid hlaid
  have HXl := Lib.hid (hX3.sets4 (i := 4 + k * 4) (j := 4 + k * 4 + 1) (k := 4 + k * 4 + 2) (l := 4 + k * 4 + 3) (.inl rfl) (a0 := .int .u64 l) (a1 := .int .u64 b) (a2 := .int .u64 c) (a3 := .slice p3 es.length c3) : Ext (fun j => j = cb ∨ j = g) w _)
  have hS4 : Holds [(w.heap.size, 0, .int .u64 l), (w.heap.size, 1, .int .u64 b), (w.heap.size, 2, .int .u64 c), (w.heap.size, 3, .slice p0 es.length c0)] ((((w3.setCell ⟨cb, 4 + k * 4, none⟩ (.int .u64 l)).setCell ⟨cb, 4 + k * 4 + 1, none⟩ (.int .u64 b)).setCell ⟨cb, 4 + k * 4 + 2, none⟩ (.int .u64 c)).setCell ⟨cb, 4 + k * 4 + 3, none⟩ (.slice p3 es.length c3)) := by
    have hE := (Ext.refl (fun j => j = cb) w3).sets4 (g := cb) (i := 4 + k * 4) (j := 4 + k * 4 + 1) (k := 4 + k * 4 + 2) (l := 4 + k * 4 + 3) rfl (a0 := .int .u64 l) (a1 := .int .u64 b) (a2 := .int .u64 c) (a3 := .slice p3 es.length c3)
    exact hS3.ext hE (by intro x hx; simp at hx; rcases hx with rfl | rfl | rfl | rfl <;> exact hne)
  have hk7 : (k : Int) < 7 := by omega
  refine hK.out _ _ hS3 (fun _ => trivial) ?_
  clear hK hS0 hb3 hb ho3 hfz hlaid hX3
  refine take_S (v := ?v6b) 6 rfl (by kernel_rfl) (by kernel_rfl) (by kernel_rfl) (by kernel_rfl) (fun _ _ _ h => h) hS3 (fun _ => trivial) rfl (fun w' hq => ?h6b) ?_
  case h6b => obtain ⟨hq0, hq1, hq2, hq3, -⟩ := hq; change _ = some _ at hq0; change _ = some _ at hq1; change _ = some _ at hq2; change _ = some _ at hq3; go_simp; try with_reducible rfl
  try simp only [Act.put, List.setIfInBounds_toArray, List.set_cons_zero, List.set_cons_succ, List.getElem_toArray, List.getElem_cons_succ, List.getElem_cons_zero]
  refine one_D 7 rfl (by kernel_rfl) (fun KQ hK => ?_)
  go_simp
  refine hK.out _ _ hS4 (fun _ => trivial) ?_
  clear hK hS3
  refine done_D (by kernel_rfl) ?_ _
  clear hS4 e0 e1 e2 z3 f0 f1 f2 f3
  go_wp2_with fail
  go_ret2
  refine ⟨rfl, HL.out.weak (fun j hj hlt => ?_) ?_, HXl.out⟩
  · rcases hj with hj | hj
    · exact .inl ⟨hj.1, HS.out j hj.1⟩
    · exact .inr ⟨by have := HX2.out.size; omega, hj.2⟩
  · have hlt := Hw.out.lt
    have hnS := Hw.out.nS
    exact ⟨More.nn hnS.1 hlt.1, More.nn hnS.2.1 hlt.2.1, More.nn hnS.2.2 hlt.2.2⟩
end
end Go.Proofs.Ytgmekodfkhihiaa
