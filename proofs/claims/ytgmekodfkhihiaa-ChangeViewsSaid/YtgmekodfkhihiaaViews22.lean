/-
  ChangeViews: the walk. Condition: the pack can be read. (Printed by wip/gen_views22.py.)
-/
import Derived.Test.YtgmekodfkhihiaaWakes22
namespace Go.Proofs.Ytgmekodfkhihiaa
open Go.RowKit Go.Maps
set_option linter.unusedSimpArgs false
set_option linter.unusedVariables false

/-- The pack's own block, and the change, through the walk. -/
structure VS (w0 W : World) (T S : Nat → Prop) (pb cb vb g : Nat) (v : Int) (t h : List Bool) (ps : List Pk) (l b c : Int) (sv : Value) (es : List Ent) : Prop where
  bl : Below w0.heap.size w0 W
  k : Blk W pb 45 #[.int .u64 l, .int .u64 b, .int .u64 c, sv]
  c : ChAt W S cb vb g 3 0 v t h ps
  s : EntsRd W T sv es
  p0 : w0.heap.size ≤ pb
  p1 : w0.heap.size ≤ cb
  p2 : w0.heap.size ≤ g
  p3 : pb ≠ cb
  p4 : pb ≠ g
  T : ∀ j, T j → j < w0.heap.size
  S : ∀ j, S j → j < W.heap.size
/-- The copy beside it. -/
structure XS (W : World) (S : Nat → Prop) (pb cb vb g cb2 vb2 g2 : Nat) (v : Int) (t h : List Bool) (ps : List Pk) (S2 : Nat → Prop) : Prop where
  x : ChAt W S2 cb2 vb2 g2 3 0 v t h ps
  n1 : ¬ S2 cb ∧ ¬ S2 g
  n2 : cb2 ≠ cb ∧ cb2 ≠ g ∧ vb2 ≠ cb ∧ vb2 ≠ g ∧ g2 ≠ cb ∧ g2 ≠ g ∧ g2 ≠ vb
  n3 : ¬ S g2
  n4 : pb ≠ g2
section
variable {w0 W W' : World} {T S S' S2 : Nat → Prop} {pb cb vb g cb2 vb2 g2 : Nat} {v v' : Int} {t h t' h' tx hx : List Bool} {ps ps' px : List Pk} {l b c : Int} {sv : Value} {es : List Ent}
theorem VS.below (H : VS w0 W T S pb cb vb g v t h ps l b c sv es) (hb : Below W.heap.size W W') : VS w0 W' T S pb cb vb g v t h ps l b c sv es :=
  ⟨H.bl.trans (hb.mono H.bl.size), H.k.below hb, H.c.below hb, H.s.below hb, H.p0, H.p1, H.p2, H.p3, H.p4, H.T, fun j hj => Nat.lt_of_lt_of_le (H.S j hj) hb.size⟩
theorem VS.ext (H : VS w0 W T S pb cb vb g v t h ps l b c sv es) (hc : ChAt W' S' cb vb g 3 0 v' t' h' ps') (hE : Ext (fun j => j = cb ∨ j = g) W W') (hS : ∀ j, S' j → j < W'.heap.size) : VS w0 W' T S' pb cb vb g v' t' h' ps' l b c sv es :=
  ⟨Ext.from H.bl hE (fun j hj => hj.elim (fun e => e ▸ H.p1) (fun e => e ▸ H.p2)), H.k.ext hE (fun e => e.elim H.p3 H.p4), hc,
    H.s.keep (fun j hj hT => hE.block j hj (fun e => by have := H.T j hT; have := H.p1; have := H.p2; omega)) (fun _ h _ => h), H.p0, H.p1, H.p2, H.p3, H.p4, H.T, hS⟩
theorem VS.far (H : VS w0 W T S pb cb vb g v t h ps l b c sv es) {q : Nat} (hE : Ext (fun j => j = q) W W') (hq : w0.heap.size ≤ q) (h1 : pb ≠ q) (h2 : ¬ S q) (h3 : q ≠ cb ∧ q ≠ vb ∧ q ≠ g) : VS w0 W' T S pb cb vb g v t h ps l b c sv es :=
  ⟨Ext.from H.bl hE (fun j hj => hj ▸ hq), H.k.ext hE h1, H.c.ext hE (fun j hj e => h2 (e ▸ hj)) (fun e => h3.1 e.symm) (fun e => h3.2.1 e.symm) (fun e => h3.2.2 e.symm),
    H.s.keep (fun j hj hT => hE.block j hj (fun e => by have := H.T j hT; omega)) (fun _ h _ => h), H.p0, H.p1, H.p2, H.p3, H.p4, H.T, fun j hj => Nat.lt_of_lt_of_le (H.S j hj) hE.size⟩
theorem XS.below (X : XS W S pb cb vb g cb2 vb2 g2 v tx hx px S2) (hb : Below W.heap.size W W') : XS W' S pb cb vb g cb2 vb2 g2 v tx hx px S2 :=
  ⟨X.x.below hb, X.n1, X.n2, X.n3, X.n4⟩
theorem XS.ext (X : XS W S pb cb vb g cb2 vb2 g2 v tx hx px S2) (hE : Ext (fun j => j = cb ∨ j = g) W W') (hS : ¬ S' g2) : XS W' S' pb cb vb g cb2 vb2 g2 v tx hx px S2 :=
  ⟨X.x.ext hE (fun j hj e => e.elim (fun e => X.n1.1 (e ▸ hj)) (fun e => X.n1.2 (e ▸ hj))) (fun e => e.elim X.n2.1 X.n2.2.1) (fun e => e.elim X.n2.2.2.1 X.n2.2.2.2.1) (fun e => e.elim X.n2.2.2.2.2.1 X.n2.2.2.2.2.2.1), X.n1, X.n2, hS, X.n4⟩
end
theorem more_lt {S : Nat → Prop} {w w' : World} (hz : w.heap.size ≤ w'.heap.size) : ∀ j, More S w w' j → j < w'.heap.size := fun j hj => hj.elim (fun h => Nat.lt_of_lt_of_le h.2 hz) (fun h => h.2)

def v1 : List Bool := [false, true, false, false, false, false, false]
def v2 : List Bool := [false, false, true, false, false, false, false]
def v12 : List Bool := [false, true, true, false, false, false, false]
theorem jv_a : justB no7 v1 (3 / 2) = true := by decide +kernel
theorem jv_b : justB no7 v1 (3 / 2 + 1) = false := by decide +kernel
theorem jv_c : justB v1 v12 (3 / 2 + 1) = true := by decide +kernel
theorem jv_d : justB v1 v12 (3 / 2) = false := by decide +kernel
theorem jv_f : justB v1 v1 (3 / 2) = false := by decide +kernel
theorem jv_e : justB no7 v2 (3 / 2) = true := by decide +kernel
theorem ok30 : NumOk 3 0 := ⟨by omega, by omega, by omega⟩
def packs1 (P : Pk) : List Pk := (List.replicate 7 noPk).set 1 P
def packs2 (P : Pk) : List Pk := ((List.replicate 7 noPk).set 1 P).set 2 P
theorem packs2_ok {P : Pk} (hP : PkOk P) : ∀ p ∈ packs2 P, PkOk p := by
  intro p hp
  have e : packs2 P = [noPk, P, P, noPk, noPk, noPk, noPk] := rfl
  rw [e] at hp
  simp only [List.mem_cons, List.not_mem_nil, or_false] at hp
  rcases hp with rfl | rfl | rfl | rfl | rfl | rfl | rfl <;> first | exact hP | exact noPk_ok
theorem ext_right {W W' : World} {cb g : Nat} (h : Ext (fun j => j = g) W W') : Ext (fun j => j = cb ∨ j = g) W W' := h.mono (fun _ _ e => .inr e)
theorem newT_same (v : Int) (t : List Bool) : newT v v t = t := by unfold newT; rw [if_neg (by omega)]
theorem newT_new {v u : Int} (h : v < u) (t : List Bool) : newT v u t = no7 := by unfold newT; rw [if_pos h]

set_option maxHeartbeats 6400000 in
set_option maxRecDepth 100000 in
theorem views_no {w : World} {T : Nat → Prop} {l b c v nx : Int} {p : Option Addr} {d : Nat} {es : List Ent} (hs : EntsRd w T (.slice p es.length d) es) (hf : Fits es) (hT : ∀ j, T j → j < w.heap.size) (hn64 : es.length ≤ 1152921504606846976) (hb0 : 0 ≤ b) (hc0 : 0 ≤ c) (hv0 : 0 ≤ v) (hv1 : v < 18446744073709551616) (hn0 : 0 ≤ nx) (hn1 : nx < 18446744073709551616) (hm : mayB l b c es = false) :
    Calls Try.prog 6 #[.int .u64 v, .int .u64 nx, .agg #[.int .u64 l, .int .u64 b, .int .u64 c, .slice p es.length d]] w fun x w' => x = .returned (.bool true) ∧ Below w.heap.size w w' := by
  have hX := (Below.refl w.heap.size w).alloc (Nat.le_refl _) (.cells #[.int .u64 l, .int .u64 b, .int .u64 c, .slice p es.length d] 45)
  have kM := Blk.new w 45 #[.int .u64 l, .int .u64 b, .int .u64 c, .slice p es.length d]
  have HS1 := Lib.hid (hs.below hX)
  have HX := Lib.hid hX
  have KM := Lib.hid kM
  have HT := Lib.hid hT
  have Hm := Lib.hid hm
  have Hf := Lib.hid hf
  have Hz := Lib.hid (Nat.le_refl w.heap.size)
  clear hX kM hs hT hm hf
  go_enter Try.func6, Try.ntmps6
  go_wp2_with fail
  generalize w.alloc (.cells #[.int .u64 l, .int .u64 b, .int .u64 c, .slice p es.length d] 45) = W1 at *
  have Hpz := Lib.hid KM.out.lt
  refine (ch_New ok30).mono ?_
  rintro x W2 ⟨cb, vb, g, rfl, hC, h1, h2, h3, hb⟩
  have HV2 := Lib.hid (show VS w W2 T (fun _ => False) w.heap.size cb vb g 0 no7 no7 (List.replicate 7 noPk) l b c (.slice p es.length d) es from by
    have z := Hpz.out
    exact ⟨HX.out.trans (hb.mono HX.out.size), KM.out.below hb, hC, HS1.out.below hb, Nat.le_refl _, by omega, by omega, by omega, by omega, HT.out, fun _ h => h.elim⟩)
  clear hC hb h1 h2 h3 HX KM HS1 HT Hpz
  go_wp2_with fail
  refine (ch_Start (vn := v) HV2.out.c hv0 hv1 hv0).mono ?_
  rintro x W3 ⟨rfl, hC, hE⟩
  rw [newT_no] at hC
  have HV3 := Lib.hid (HV2.out.ext hC hE (fun _ h => h.elim))
  clear hC hE HV2
  go_wp2_with fail
  refine (ch_View HV3.out.c).mono ?_
  rintro x _ ⟨rfl, rfl⟩
  obtain ⟨q0, q1, q2, q3, qf0, qf1, qf2, qf3, qz⟩ := HV3.out.k.c4
  go_wp2_with fail
  refine (pack_May HV3.out.s hn64 hb0).mono ?_
  rintro x W4 ⟨rfl, hb⟩
  rw [Hm.out]
  have HV4 := Lib.hid (HV3.out.below hb)
  clear hb HV3 q0 q1 q2 q3 qf0 qf1 qf2 qf3 qz

  obtain ⟨q0, q1, q2, q3, qf0, qf1, qf2, qf3, qz⟩ := HV4.out.k.c4
  go_wp2_with fail
  refine (pack_May HV4.out.s hn64 hb0).mono ?_
  rintro x W5 ⟨rfl, hb⟩
  rw [Hm.out]
  have HV5 := Lib.hid (HV4.out.below hb)
  clear hb HV4
  clear q0 q1 q2 q3 qf0 qf1 qf2 qf3 qz
  go_wp2_with fail
  refine wakes_true.mono ?_
  rintro x W6 ⟨rfl, hb⟩
  have HV6 := Lib.hid (HV5.out.below hb)
  clear hb HV5
  go_wp2_with fail
  go_ret
  exact ⟨rfl, HV6.out.bl⟩
set_option maxHeartbeats 6400000 in
set_option maxRecDepth 100000 in
theorem views_back {w : World} {T : Nat → Prop} {l b c v nx : Int} {p : Option Addr} {d : Nat} {es : List Ent} (hs : EntsRd w T (.slice p es.length d) es) (hf : Fits es) (hT : ∀ j, T j → j < w.heap.size) (hn64 : es.length ≤ 1152921504606846976) (hb0 : 0 ≤ b) (hc0 : 0 ≤ c) (hv0 : 0 ≤ v) (hv1 : v < 18446744073709551616) (hn0 : 0 ≤ nx) (hn1 : nx < 18446744073709551616) (hm : mayB l b c es = true) (hlt : nx < v) :
    Calls Try.prog 6 #[.int .u64 v, .int .u64 nx, .agg #[.int .u64 l, .int .u64 b, .int .u64 c, .slice p es.length d]] w fun x w' => x = .returned (.bool true) ∧ Below w.heap.size w w' := by
  have hX := (Below.refl w.heap.size w).alloc (Nat.le_refl _) (.cells #[.int .u64 l, .int .u64 b, .int .u64 c, .slice p es.length d] 45)
  have kM := Blk.new w 45 #[.int .u64 l, .int .u64 b, .int .u64 c, .slice p es.length d]
  have HS1 := Lib.hid (hs.below hX)
  have HX := Lib.hid hX
  have KM := Lib.hid kM
  have HT := Lib.hid hT
  have Hm := Lib.hid hm
  have Hf := Lib.hid hf
  have Hz := Lib.hid (Nat.le_refl w.heap.size)
  clear hX kM hs hT hm hf
  go_enter Try.func6, Try.ntmps6
  go_wp2_with fail
  generalize w.alloc (.cells #[.int .u64 l, .int .u64 b, .int .u64 c, .slice p es.length d] 45) = W1 at *
  have Hpz := Lib.hid KM.out.lt
  refine (ch_New ok30).mono ?_
  rintro x W2 ⟨cb, vb, g, rfl, hC, h1, h2, h3, hb⟩
  have HV2 := Lib.hid (show VS w W2 T (fun _ => False) w.heap.size cb vb g 0 no7 no7 (List.replicate 7 noPk) l b c (.slice p es.length d) es from by
    have z := Hpz.out
    exact ⟨HX.out.trans (hb.mono HX.out.size), KM.out.below hb, hC, HS1.out.below hb, Nat.le_refl _, by omega, by omega, by omega, by omega, HT.out, fun _ h => h.elim⟩)
  clear hC hb h1 h2 h3 HX KM HS1 HT Hpz
  go_wp2_with fail
  refine (ch_Start (vn := v) HV2.out.c hv0 hv1 hv0).mono ?_
  rintro x W3 ⟨rfl, hC, hE⟩
  rw [newT_no] at hC
  have HV3 := Lib.hid (HV2.out.ext hC hE (fun _ h => h.elim))
  clear hC hE HV2
  go_wp2_with fail
  refine (ch_View HV3.out.c).mono ?_
  rintro x _ ⟨rfl, rfl⟩
  obtain ⟨q0, q1, q2, q3, qf0, qf1, qf2, qf3, qz⟩ := HV3.out.k.c4
  go_wp2_with fail
  refine (pack_May HV3.out.s hn64 hb0).mono ?_
  rintro x W4 ⟨rfl, hb⟩
  rw [Hm.out]
  have HV4 := Lib.hid (HV3.out.below hb)
  clear hb HV3 q0 q1 q2 q3 qf0 qf1 qf2 qf3 qz

  go_wp2_with fail
  refine (ch_Told (k := 1) (t' := v1) HV4.out.c ok30 (by decide) (by decide) rfl).mono ?_
  rintro x W5 ⟨rfl, hC, hE⟩
  rw [jv_a]
  have HV5 := Lib.hid (HV4.out.ext hC (ext_right hE) (fun _ h => h.elim))
  clear hC hE HV4
  obtain ⟨q0, q1, q2, q3, qf0, qf1, qf2, qf3, qz⟩ := HV5.out.k.c4
  go_wp2_with fail
  refine (ch_Hand (k := 1) (h' := v1) HV5.out.c ok30 (by decide) HV5.out.s Hf.out (fun j hj => by have := HV5.out.T j hj; have := HV5.out.bl.size; omega) (fun hg => by have := HV5.out.T _ hg; have := HV5.out.p2; omega) HV5.out.S Hm.out hb0 hn64 rfl).mono ?_
  rintro x W6 ⟨rfl, hC, hE⟩
  rw [jv_b]
  generalize hS1 : More (fun _ => False) W5 W6 = S1 at hC
  have HV6 := Lib.hid (HV5.out.ext hC hE (fun j hj => more_lt hE.size j (hS1 ▸ hj)))
  clear hC hE HV5 q0 q1 q2 q3 qf0 qf1 qf2 qf3 qz hS1
  go_wp2_with fail
  refine (ch_Copy HV6.out.c HV6.out.S).mono ?_
  rintro x W7 ⟨cb2, vb2, g2, rfl, hC, h1, h2, h3, hb⟩
  have HV7 := Lib.hid (HV6.out.below hb)
  have HG2 := Lib.hid (show w.heap.size ≤ g2 by have := HV6.out.bl.size; omega)
  have HY7 := Lib.hid (show XS W7 S1 w.heap.size cb vb g cb2 vb2 g2 v v1 v1 ((List.replicate 7 noPk).set 1 ⟨l, b, c, es⟩) S1 from by
    have q := HV6.out.c.lt
    have q2 := HV6.out.c.nS
    have q3 := HV6.out.k.lt
    exact ⟨hC, ⟨q2.1, q2.2.2⟩, by omega, fun h => by have := HV6.out.S _ h; omega, by omega⟩)
  clear hC hb h1 h2 h3 HV6
  obtain ⟨q0, q1, q2, q3, qf0, qf1, qf2, qf3, qz⟩ := HV7.out.k.c4
  go_wp2_with fail
  refine (ch_Hand (k := 2) (h' := v12) HV7.out.c ok30 (by decide) HV7.out.s Hf.out (fun j hj => by have := HV7.out.T j hj; have := HV7.out.bl.size; omega) (fun hg => by have := HV7.out.T _ hg; have := HV7.out.p2; omega) HV7.out.S Hm.out hb0 hn64 rfl).mono ?_
  rintro x W8 ⟨rfl, hC, hE⟩
  rw [jv_c]
  generalize hS2 : More S1 W7 W8 = S2 at hC
  have HV8 := Lib.hid (HV7.out.ext hC hE (fun j hj => more_lt hE.size j (hS2 ▸ hj)))
  have HY8 := Lib.hid (HY7.out.ext (S' := S2) hE (by
    rw [← hS2]
    rintro (⟨h, -⟩ | ⟨h, -⟩)
    · exact HY7.out.n3 h
    · have := HY7.out.x.lt; omega))
  clear hC hE HV7 HY7 hS2 q0 q1 q2 q3 qf0 qf1 qf2 qf3 qz
  have HO := Lib.hid (packs2_ok (P := ⟨l, b, c, es⟩) ⟨Hm.out, hb0, hc0⟩)
  go_wp2_with fail
  refine (ch_Best HV8.out.c ok30 HV8.out.S HO.out (by decide +kernel)).mono ?_
  rintro x W9 ⟨bp, bd, rfl, hO, hb⟩
  have HV9 := Lib.hid (HV8.out.below hb)
  have HY9 := Lib.hid (HY8.out.below hb)
  clear hO hb HV8 HY8
  generalize bestOf _ _ = B at *
  obtain ⟨Bl, Bb, Bc, Be⟩ := B

  go_upto_region 9 with fail
  have hb := (Below.refl W9.heap.size W9).alloc (Nat.le_refl _) (.cells #[.int .u64 Bl, .int .u64 Bb, .int .u64 Bc, .slice bp Be.length bd] 35)
  have HV10 := Lib.hid (HV9.out.below hb)
  have HY10 := Lib.hid (HY9.out.below hb)
  clear hb HV9 HY9
  generalize W9.alloc (.cells #[.int .u64 Bl, .int .u64 Bb, .int .u64 Bc, .slice bp Be.length bd] 35) = W10 at *
  go_wp2_with fail
  have dlt : decide (nx < v) = true := by simpa using hlt
  refine (ch_Start_arg HV10.out.c hlt).mono ?_
  rintro x _ ⟨rfl, rfl⟩
  go_wp2_with fail
  refine (ch_Best HV10.out.c ok30 HV10.out.S HO.out (by decide +kernel)).mono ?_
  rintro x W11 ⟨bp, bd, rfl, hO, hb⟩
  have HV11 := Lib.hid (HV10.out.below hb)
  have HY11 := Lib.hid (HY10.out.below hb)
  clear hO hb HV10 HY10
  generalize bestOf _ _ = B at *
  obtain ⟨Bl, Bb, Bc, Be⟩ := B
  go_upto_region 13 with fail
  have hb := (Below.refl W11.heap.size W11).alloc (Nat.le_refl _) (.cells #[.int .u64 Bl, .int .u64 Bb, .int .u64 Bc, .slice bp Be.length bd] 35)
  have HV12 := Lib.hid (HV11.out.below hb)
  have HY12 := Lib.hid (HY11.out.below hb)
  clear hb HV11 HY11
  generalize W11.alloc (.cells #[.int .u64 Bl, .int .u64 Bb, .int .u64 Bc, .slice bp Be.length bd] 35) = W12 at *
  go_wp2_with fail
  refine (ch_View HV12.out.c).mono ?_
  rintro x _ ⟨rfl, rfl⟩
  go_wp2_with fail
  refine wakes_true.mono ?_
  rintro x WZ ⟨rfl, hb⟩
  have HVZ := Lib.hid (HV12.out.below hb)
  clear hb HV12
  go_wp2_with fail
  go_ret
  exact ⟨rfl, HVZ.out.bl⟩
set_option maxHeartbeats 6400000 in
set_option maxRecDepth 100000 in
theorem views_same {w : World} {T : Nat → Prop} {l b c v : Int} {p : Option Addr} {d : Nat} {es : List Ent} (hs : EntsRd w T (.slice p es.length d) es) (hf : Fits es) (hT : ∀ j, T j → j < w.heap.size) (hn64 : es.length ≤ 1152921504606846976) (hb0 : 0 ≤ b) (hc0 : 0 ≤ c) (hv0 : 0 ≤ v) (hv1 : v < 18446744073709551616) (hm : mayB l b c es = true) :
    Calls Try.prog 6 #[.int .u64 v, .int .u64 v, .agg #[.int .u64 l, .int .u64 b, .int .u64 c, .slice p es.length d]] w fun x w' => x = .returned (.bool true) ∧ Below w.heap.size w w' := by
  have hX := (Below.refl w.heap.size w).alloc (Nat.le_refl _) (.cells #[.int .u64 l, .int .u64 b, .int .u64 c, .slice p es.length d] 45)
  have kM := Blk.new w 45 #[.int .u64 l, .int .u64 b, .int .u64 c, .slice p es.length d]
  have HS1 := Lib.hid (hs.below hX)
  have HX := Lib.hid hX
  have KM := Lib.hid kM
  have HT := Lib.hid hT
  have Hm := Lib.hid hm
  have Hf := Lib.hid hf
  have Hz := Lib.hid (Nat.le_refl w.heap.size)
  clear hX kM hs hT hm hf
  go_enter Try.func6, Try.ntmps6
  go_wp2_with fail
  generalize w.alloc (.cells #[.int .u64 l, .int .u64 b, .int .u64 c, .slice p es.length d] 45) = W1 at *
  have Hpz := Lib.hid KM.out.lt
  refine (ch_New ok30).mono ?_
  rintro x W2 ⟨cb, vb, g, rfl, hC, h1, h2, h3, hb⟩
  have HV2 := Lib.hid (show VS w W2 T (fun _ => False) w.heap.size cb vb g 0 no7 no7 (List.replicate 7 noPk) l b c (.slice p es.length d) es from by
    have z := Hpz.out
    exact ⟨HX.out.trans (hb.mono HX.out.size), KM.out.below hb, hC, HS1.out.below hb, Nat.le_refl _, by omega, by omega, by omega, by omega, HT.out, fun _ h => h.elim⟩)
  clear hC hb h1 h2 h3 HX KM HS1 HT Hpz
  go_wp2_with fail
  refine (ch_Start (vn := v) HV2.out.c hv0 hv1 hv0).mono ?_
  rintro x W3 ⟨rfl, hC, hE⟩
  rw [newT_no] at hC
  have HV3 := Lib.hid (HV2.out.ext hC hE (fun _ h => h.elim))
  clear hC hE HV2
  go_wp2_with fail
  refine (ch_View HV3.out.c).mono ?_
  rintro x _ ⟨rfl, rfl⟩
  obtain ⟨q0, q1, q2, q3, qf0, qf1, qf2, qf3, qz⟩ := HV3.out.k.c4
  go_wp2_with fail
  refine (pack_May HV3.out.s hn64 hb0).mono ?_
  rintro x W4 ⟨rfl, hb⟩
  rw [Hm.out]
  have HV4 := Lib.hid (HV3.out.below hb)
  clear hb HV3 q0 q1 q2 q3 qf0 qf1 qf2 qf3 qz

  go_wp2_with fail
  refine (ch_Told (k := 1) (t' := v1) HV4.out.c ok30 (by decide) (by decide) rfl).mono ?_
  rintro x W5 ⟨rfl, hC, hE⟩
  rw [jv_a]
  have HV5 := Lib.hid (HV4.out.ext hC (ext_right hE) (fun _ h => h.elim))
  clear hC hE HV4
  obtain ⟨q0, q1, q2, q3, qf0, qf1, qf2, qf3, qz⟩ := HV5.out.k.c4
  go_wp2_with fail
  refine (ch_Hand (k := 1) (h' := v1) HV5.out.c ok30 (by decide) HV5.out.s Hf.out (fun j hj => by have := HV5.out.T j hj; have := HV5.out.bl.size; omega) (fun hg => by have := HV5.out.T _ hg; have := HV5.out.p2; omega) HV5.out.S Hm.out hb0 hn64 rfl).mono ?_
  rintro x W6 ⟨rfl, hC, hE⟩
  rw [jv_b]
  generalize hS1 : More (fun _ => False) W5 W6 = S1 at hC
  have HV6 := Lib.hid (HV5.out.ext hC hE (fun j hj => more_lt hE.size j (hS1 ▸ hj)))
  clear hC hE HV5 q0 q1 q2 q3 qf0 qf1 qf2 qf3 qz hS1
  go_wp2_with fail
  refine (ch_Copy HV6.out.c HV6.out.S).mono ?_
  rintro x W7 ⟨cb2, vb2, g2, rfl, hC, h1, h2, h3, hb⟩
  have HV7 := Lib.hid (HV6.out.below hb)
  have HG2 := Lib.hid (show w.heap.size ≤ g2 by have := HV6.out.bl.size; omega)
  have HY7 := Lib.hid (show XS W7 S1 w.heap.size cb vb g cb2 vb2 g2 v v1 v1 ((List.replicate 7 noPk).set 1 ⟨l, b, c, es⟩) S1 from by
    have q := HV6.out.c.lt
    have q2 := HV6.out.c.nS
    have q3 := HV6.out.k.lt
    exact ⟨hC, ⟨q2.1, q2.2.2⟩, by omega, fun h => by have := HV6.out.S _ h; omega, by omega⟩)
  clear hC hb h1 h2 h3 HV6
  obtain ⟨q0, q1, q2, q3, qf0, qf1, qf2, qf3, qz⟩ := HV7.out.k.c4
  go_wp2_with fail
  refine (ch_Hand (k := 2) (h' := v12) HV7.out.c ok30 (by decide) HV7.out.s Hf.out (fun j hj => by have := HV7.out.T j hj; have := HV7.out.bl.size; omega) (fun hg => by have := HV7.out.T _ hg; have := HV7.out.p2; omega) HV7.out.S Hm.out hb0 hn64 rfl).mono ?_
  rintro x W8 ⟨rfl, hC, hE⟩
  rw [jv_c]
  generalize hS2 : More S1 W7 W8 = S2 at hC
  have HV8 := Lib.hid (HV7.out.ext hC hE (fun j hj => more_lt hE.size j (hS2 ▸ hj)))
  have HY8 := Lib.hid (HY7.out.ext (S' := S2) hE (by
    rw [← hS2]
    rintro (⟨h, -⟩ | ⟨h, -⟩)
    · exact HY7.out.n3 h
    · have := HY7.out.x.lt; omega))
  clear hC hE HV7 HY7 hS2 q0 q1 q2 q3 qf0 qf1 qf2 qf3 qz
  have HO := Lib.hid (packs2_ok (P := ⟨l, b, c, es⟩) ⟨Hm.out, hb0, hc0⟩)
  go_wp2_with fail
  refine (ch_Best HV8.out.c ok30 HV8.out.S HO.out (by decide +kernel)).mono ?_
  rintro x W9 ⟨bp, bd, rfl, hO, hb⟩
  have HV9 := Lib.hid (HV8.out.below hb)
  have HY9 := Lib.hid (HY8.out.below hb)
  clear hO hb HV8 HY8
  generalize bestOf _ _ = B at *
  obtain ⟨Bl, Bb, Bc, Be⟩ := B

  go_upto_region 9 with fail
  have hb := (Below.refl W9.heap.size W9).alloc (Nat.le_refl _) (.cells #[.int .u64 Bl, .int .u64 Bb, .int .u64 Bc, .slice bp Be.length bd] 35)
  have HV10 := Lib.hid (HV9.out.below hb)
  have HY10 := Lib.hid (HY9.out.below hb)
  clear hb HV9 HY9
  generalize W9.alloc (.cells #[.int .u64 Bl, .int .u64 Bb, .int .u64 Bc, .slice bp Be.length bd] 35) = W10 at *
  go_wp2_with fail
  refine (ch_Start (vn := v) HV10.out.c hv0 hv1 (Int.le_refl _)).mono ?_
  rintro x W11 ⟨rfl, hC, hE⟩
  rw [newT_same, newT_same] at hC
  have HV11 := Lib.hid (HV10.out.ext hC hE (fun j hj => Nat.lt_of_lt_of_le (HV10.out.S j hj) hE.size))
  have HY11 := Lib.hid (HY10.out.ext (S' := S2) hE HY10.out.n3)
  clear hC hE HV10 HY10
  go_wp2_with fail
  refine (ch_Best HV11.out.c ok30 HV11.out.S HO.out (by decide +kernel)).mono ?_
  rintro x W12 ⟨bp, bd, rfl, hO, hb⟩
  have HV12 := Lib.hid (HV11.out.below hb)
  have HY12 := Lib.hid (HY11.out.below hb)
  clear hO hb HV11 HY11
  generalize bestOf _ _ = B at *
  obtain ⟨Bl, Bb, Bc, Be⟩ := B
  go_upto_region 13 with fail
  have hb := (Below.refl W12.heap.size W12).alloc (Nat.le_refl _) (.cells #[.int .u64 Bl, .int .u64 Bb, .int .u64 Bc, .slice bp Be.length bd] 35)
  have HV13 := Lib.hid (HV12.out.below hb)
  have HY13 := Lib.hid (HY12.out.below hb)
  clear hb HV12 HY12
  generalize W12.alloc (.cells #[.int .u64 Bl, .int .u64 Bb, .int .u64 Bc, .slice bp Be.length bd] 35) = W13 at *
  have dlt : decide (v < v) = false := by simp
  go_wp2_with fail
  refine (ch_Told (k := 1) (t' := v1) HY13.out.x ok30 (by decide) (by decide) rfl).mono ?_
  rintro x W14 ⟨rfl, hC, hE⟩
  rw [jv_f]
  have HV14 := Lib.hid (HV13.out.far hE HG2.out HY13.out.n4 HY13.out.n3 ⟨HY13.out.n2.2.2.2.2.1, HY13.out.n2.2.2.2.2.2.2, HY13.out.n2.2.2.2.2.2.1⟩)
  clear hC hE HV13 HY13
  go_wp2_with fail
  refine (ch_View HV14.out.c).mono ?_
  rintro x _ ⟨rfl, rfl⟩
  go_wp2_with fail
  refine (ch_Told (k := 2) (t' := v12) HV14.out.c ok30 (by decide) (by decide) rfl).mono ?_
  rintro x W15 ⟨rfl, hC, hE⟩
  rw [jv_d]
  have HV15 := Lib.hid (HV14.out.ext hC (ext_right hE) (fun j hj => Nat.lt_of_lt_of_le (HV14.out.S j hj) hE.size))
  clear hC hE HV14
  go_wp2_with fail
  refine wakes_true.mono ?_
  rintro x WZ ⟨rfl, hb⟩
  have HVZ := Lib.hid (HV15.out.below hb)
  clear hb HV15
  go_wp2_with fail
  go_ret
  exact ⟨rfl, HVZ.out.bl⟩
set_option maxHeartbeats 6400000 in
set_option maxRecDepth 100000 in
theorem views_new {w : World} {T : Nat → Prop} {l b c v nx : Int} {p : Option Addr} {d : Nat} {es : List Ent} (hs : EntsRd w T (.slice p es.length d) es) (hf : Fits es) (hT : ∀ j, T j → j < w.heap.size) (hn64 : es.length ≤ 1152921504606846976) (hb0 : 0 ≤ b) (hc0 : 0 ≤ c) (hv0 : 0 ≤ v) (hv1 : v < 18446744073709551616) (hn0 : 0 ≤ nx) (hn1 : nx < 18446744073709551616) (hm : mayB l b c es = true) (hlt : v < nx) :
    Calls Try.prog 6 #[.int .u64 v, .int .u64 nx, .agg #[.int .u64 l, .int .u64 b, .int .u64 c, .slice p es.length d]] w fun x w' => x = .returned (.bool true) ∧ Below w.heap.size w w' := by
  have hX := (Below.refl w.heap.size w).alloc (Nat.le_refl _) (.cells #[.int .u64 l, .int .u64 b, .int .u64 c, .slice p es.length d] 45)
  have kM := Blk.new w 45 #[.int .u64 l, .int .u64 b, .int .u64 c, .slice p es.length d]
  have HS1 := Lib.hid (hs.below hX)
  have HX := Lib.hid hX
  have KM := Lib.hid kM
  have HT := Lib.hid hT
  have Hm := Lib.hid hm
  have Hf := Lib.hid hf
  have Hz := Lib.hid (Nat.le_refl w.heap.size)
  clear hX kM hs hT hm hf
  go_enter Try.func6, Try.ntmps6
  go_wp2_with fail
  generalize w.alloc (.cells #[.int .u64 l, .int .u64 b, .int .u64 c, .slice p es.length d] 45) = W1 at *
  have Hpz := Lib.hid KM.out.lt
  refine (ch_New ok30).mono ?_
  rintro x W2 ⟨cb, vb, g, rfl, hC, h1, h2, h3, hb⟩
  have HV2 := Lib.hid (show VS w W2 T (fun _ => False) w.heap.size cb vb g 0 no7 no7 (List.replicate 7 noPk) l b c (.slice p es.length d) es from by
    have z := Hpz.out
    exact ⟨HX.out.trans (hb.mono HX.out.size), KM.out.below hb, hC, HS1.out.below hb, Nat.le_refl _, by omega, by omega, by omega, by omega, HT.out, fun _ h => h.elim⟩)
  clear hC hb h1 h2 h3 HX KM HS1 HT Hpz
  go_wp2_with fail
  refine (ch_Start (vn := v) HV2.out.c hv0 hv1 hv0).mono ?_
  rintro x W3 ⟨rfl, hC, hE⟩
  rw [newT_no] at hC
  have HV3 := Lib.hid (HV2.out.ext hC hE (fun _ h => h.elim))
  clear hC hE HV2
  go_wp2_with fail
  refine (ch_View HV3.out.c).mono ?_
  rintro x _ ⟨rfl, rfl⟩
  obtain ⟨q0, q1, q2, q3, qf0, qf1, qf2, qf3, qz⟩ := HV3.out.k.c4
  go_wp2_with fail
  refine (pack_May HV3.out.s hn64 hb0).mono ?_
  rintro x W4 ⟨rfl, hb⟩
  rw [Hm.out]
  have HV4 := Lib.hid (HV3.out.below hb)
  clear hb HV3 q0 q1 q2 q3 qf0 qf1 qf2 qf3 qz

  go_wp2_with fail
  refine (ch_Told (k := 1) (t' := v1) HV4.out.c ok30 (by decide) (by decide) rfl).mono ?_
  rintro x W5 ⟨rfl, hC, hE⟩
  rw [jv_a]
  have HV5 := Lib.hid (HV4.out.ext hC (ext_right hE) (fun _ h => h.elim))
  clear hC hE HV4
  obtain ⟨q0, q1, q2, q3, qf0, qf1, qf2, qf3, qz⟩ := HV5.out.k.c4
  go_wp2_with fail
  refine (ch_Hand (k := 1) (h' := v1) HV5.out.c ok30 (by decide) HV5.out.s Hf.out (fun j hj => by have := HV5.out.T j hj; have := HV5.out.bl.size; omega) (fun hg => by have := HV5.out.T _ hg; have := HV5.out.p2; omega) HV5.out.S Hm.out hb0 hn64 rfl).mono ?_
  rintro x W6 ⟨rfl, hC, hE⟩
  rw [jv_b]
  generalize hS1 : More (fun _ => False) W5 W6 = S1 at hC
  have HV6 := Lib.hid (HV5.out.ext hC hE (fun j hj => more_lt hE.size j (hS1 ▸ hj)))
  clear hC hE HV5 q0 q1 q2 q3 qf0 qf1 qf2 qf3 qz hS1
  go_wp2_with fail
  refine (ch_Copy HV6.out.c HV6.out.S).mono ?_
  rintro x W7 ⟨cb2, vb2, g2, rfl, hC, h1, h2, h3, hb⟩
  have HV7 := Lib.hid (HV6.out.below hb)
  have HG2 := Lib.hid (show w.heap.size ≤ g2 by have := HV6.out.bl.size; omega)
  have HY7 := Lib.hid (show XS W7 S1 w.heap.size cb vb g cb2 vb2 g2 v v1 v1 ((List.replicate 7 noPk).set 1 ⟨l, b, c, es⟩) S1 from by
    have q := HV6.out.c.lt
    have q2 := HV6.out.c.nS
    have q3 := HV6.out.k.lt
    exact ⟨hC, ⟨q2.1, q2.2.2⟩, by omega, fun h => by have := HV6.out.S _ h; omega, by omega⟩)
  clear hC hb h1 h2 h3 HV6
  obtain ⟨q0, q1, q2, q3, qf0, qf1, qf2, qf3, qz⟩ := HV7.out.k.c4
  go_wp2_with fail
  refine (ch_Hand (k := 2) (h' := v12) HV7.out.c ok30 (by decide) HV7.out.s Hf.out (fun j hj => by have := HV7.out.T j hj; have := HV7.out.bl.size; omega) (fun hg => by have := HV7.out.T _ hg; have := HV7.out.p2; omega) HV7.out.S Hm.out hb0 hn64 rfl).mono ?_
  rintro x W8 ⟨rfl, hC, hE⟩
  rw [jv_c]
  generalize hS2 : More S1 W7 W8 = S2 at hC
  have HV8 := Lib.hid (HV7.out.ext hC hE (fun j hj => more_lt hE.size j (hS2 ▸ hj)))
  have HY8 := Lib.hid (HY7.out.ext (S' := S2) hE (by
    rw [← hS2]
    rintro (⟨h, -⟩ | ⟨h, -⟩)
    · exact HY7.out.n3 h
    · have := HY7.out.x.lt; omega))
  clear hC hE HV7 HY7 hS2 q0 q1 q2 q3 qf0 qf1 qf2 qf3 qz
  have HO := Lib.hid (packs2_ok (P := ⟨l, b, c, es⟩) ⟨Hm.out, hb0, hc0⟩)
  go_wp2_with fail
  refine (ch_Best HV8.out.c ok30 HV8.out.S HO.out (by decide +kernel)).mono ?_
  rintro x W9 ⟨bp, bd, rfl, hO, hb⟩
  have HV9 := Lib.hid (HV8.out.below hb)
  have HY9 := Lib.hid (HY8.out.below hb)
  clear hO hb HV8 HY8
  generalize bestOf _ _ = B at *
  obtain ⟨Bl, Bb, Bc, Be⟩ := B

  go_upto_region 9 with fail
  have hb := (Below.refl W9.heap.size W9).alloc (Nat.le_refl _) (.cells #[.int .u64 Bl, .int .u64 Bb, .int .u64 Bc, .slice bp Be.length bd] 35)
  have HV10 := Lib.hid (HV9.out.below hb)
  have HY10 := Lib.hid (HY9.out.below hb)
  clear hb HV9 HY9
  generalize W9.alloc (.cells #[.int .u64 Bl, .int .u64 Bb, .int .u64 Bc, .slice bp Be.length bd] 35) = W10 at *
  go_wp2_with fail
  refine (ch_Start (vn := nx) HV10.out.c hn0 hn1 (by omega)).mono ?_
  rintro x W11 ⟨rfl, hC, hE⟩
  rw [newT_new hlt, newT_new hlt] at hC
  have HV11 := Lib.hid (HV10.out.ext hC hE (fun j hj => Nat.lt_of_lt_of_le (HV10.out.S j hj) hE.size))
  have HY11 := Lib.hid (HY10.out.ext (S' := S2) hE HY10.out.n3)
  clear hC hE HV10 HY10
  go_wp2_with fail
  refine (ch_Best_few HV11.out.c ok30 (by decide +kernel)).mono ?_
  rintro x W12 ⟨rfl, hb⟩
  have HV12 := Lib.hid (HV11.out.below hb)
  have HY12 := Lib.hid (HY11.out.below hb)
  clear hb HV11 HY11
  go_upto_region 13 with fail
  have hb := (Below.refl W12.heap.size W12).alloc (Nat.le_refl _) (.cells #[.int .u64 0, .int .u64 0, .int .u64 0, .slice none 0 0] 35)
  have HV13 := Lib.hid (HV12.out.below hb)
  have HY13 := Lib.hid (HY12.out.below hb)
  clear hb HV12 HY12
  generalize W12.alloc (.cells #[.int .u64 0, .int .u64 0, .int .u64 0, .slice none 0 0] 35) = W13 at *
  have dlt : decide (nx < v) = false := by simp; omega
  have dne : (nx == v) = false := by simp; omega
  have dnn : (nx != v) = true := by simp; omega
  go_wp2_with fail
  refine (ch_Told_state HY13.out.x ok30 (k := 1) (by decide) (by decide) (by decide) (by omega)).mono ?_
  rintro x _ ⟨rfl, rfl⟩
  clear HY13
  go_wp2_with fail
  refine (ch_View HV13.out.c).mono ?_
  rintro x _ ⟨rfl, rfl⟩
  go_wp2_with fail
  refine (ch_Told (k := 2) (t' := v2) HV13.out.c ok30 (by decide) (by decide) rfl).mono ?_
  rintro x W15 ⟨rfl, hC, hE⟩
  rw [jv_e]
  have HV15 := Lib.hid (HV13.out.ext hC (ext_right hE) (fun j hj => Nat.lt_of_lt_of_le (HV13.out.S j hj) hE.size))
  clear hC hE HV13
  go_wp2_with fail
  refine wakes_true.mono ?_
  rintro x WZ ⟨rfl, hb⟩
  have HVZ := Lib.hid (HV15.out.below hb)
  clear hb HV15
  go_wp2_with fail
  go_ret
  exact ⟨rfl, HVZ.out.bl⟩
end Go.Proofs.Ytgmekodfkhihiaa
