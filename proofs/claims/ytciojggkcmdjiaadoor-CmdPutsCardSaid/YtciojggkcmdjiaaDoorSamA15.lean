/-
  cmd.SameAnswer: its contract. (Printed by wip/gen_sama15.py.)
-/
import Derived.Test.YtciojggkcmdjiaaDoorSamE15
namespace Go.Proofs.YtciojggkcmdjiaaDoor
open Go.RowKit
set_option linter.unusedSimpArgs false
set_option linter.unusedVariables false

set_option maxHeartbeats 3200000 in
theorem slices_EqualFunc {w : World} {S T : Nat → Prop} {v u : Value} {us vs : List Opr} (h : OpsRd w S v us) (k : OpsRd w T u vs) (hl : us.length ≤ 1000000) (hl2 : vs.length ≤ 1000000) (hf : ∀ o ∈ us, o.us.length ≤ 1000000) (hf2 : ∀ o ∈ vs, o.us.length ≤ 1000000) :
    Calls Tryd.prog 46 #[v, u, .func (.func 44) #[] #[]] w fun x w' => x = .returned (.bool (decide (us = vs))) ∧ Below w.heap.size w w' := by
  obtain ⟨p, c, rfl⟩ := h.slice
  obtain ⟨q, d, rfl⟩ := k.slice
  have H := Lib.hid h
  have K := Lib.hid k
  obtain ⟨r, hr⟩ : ∃ x, decide (us = vs) = x := ⟨_, rfl⟩
  rw [hr]
  have Hr := Lib.hid hr
  have Hf := Lib.hid hf
  have Hf2 := Lib.hid hf2
  clear h k hr hf hf2
  by_cases hlen : us.length = vs.length
  · have Hlen := Lib.hid hlen
    have dl : ((us.length : Int) != (vs.length : Int)) = false := by simp; omega
    clear hlen
    go_enter Tryd.func46, Tryd.ntmps46
    go_wp2_with fail
    go_loopw [17] (fun iv wr => ∃ j : Nat, j ≤ us.length ∧ iv = .int .i64 j ∧ Hid (Below w.heap.size w wr ∧ ∀ i (hi : i < us.length) (hi2 : i < vs.length), i < j → us[i] = vs[i])) (fun iv _ => us.length - (intOf iv).toNat)
    case atStart => exact ⟨0, Nat.zero_le _, rfl, Lib.hid ⟨Below.refl _ w, fun i _ _ h => absurd h (by omega)⟩⟩
    case round =>
      obtain ⟨j, hj, rfl, hR⟩ := hrel
      by_cases hlt : j < us.length
      · have hlt2 : j < vs.length := by have := Hlen.out; omega
        have hlti : (j : Int) < (us.length : Int) := by omega
        obtain ⟨g, off, q1, k1, rfl, hc, e0, e1, e2, e3, hu⟩ := (H.out.below hR.out.1).at_ hlt
        obtain ⟨g', off', q2, k2, rfl, hd, d0, d1, d2, d3, hv⟩ := (K.out.below hR.out.1).at_ hlt2
        have Hn := Lib.hid (show ∀ (x y : _), us[j] = x → vs[j] = y → (x = y → ∀ i (hi : i < us.length) (hi2 : i < vs.length), i < j + 1 → us[i] = vs[i]) ∧ (x ≠ y → r = false) from fun x y hx hy => ⟨fun e i hi hi2 hij => by
            rcases Nat.lt_succ_iff_lt_or_eq.1 hij with h | rfl
            · exact hR.out.2 i hi hi2 h
            · rw [hx, hy, e], fun hne => by
            rw [← Hr.out]
            refine decide_eq_false (fun e => hne ?_)
            subst e
            rw [← hx, ← hy]⟩)
        have Hn2 := Lib.hid (Hn.out _ _ rfl rfl)
        have hl3 := Hf.out _ (List.getElem_mem hlt)
        have hl4 := Hf2.out _ (List.getElem_mem hlt2)
        generalize us[j]'hlt = x at *
        generalize vs[j]'hlt2 = y at *
        have HB := Lib.hid hR.out.1
        have HU := Lib.hid hu
        have HV := Lib.hid hv
        have hgz := lt_of_cell e0
        have hgz2 := lt_of_cell d0
        clear Hn hR hu hv
        go_wp2_with fail
        have hba := ((Below.refl wr.heap.size wr).alloc (Nat.le_refl _) (.cells #[.int .u32 x.cl, .int .u64 x.rq, .slice q1 x.us.length k1, .bool x.un] 46)).alloc (by rw [World.size_alloc]; omega) (.cells #[.int .u32 y.cl, .int .u64 y.rq, .slice q2 y.us.length k2, .bool y.un] 46)
        have HU2 := Lib.hid (HU.out.below hba)
        have HV2 := Lib.hid (HV.out.below hba)
        have HB2 := Lib.hid (HB.out.trans (hba.mono HB.out.size))
        clear hba HU HV HB
        generalize (wr.alloc (.cells #[.int .u32 x.cl, .int .u64 x.rq, .slice q1 x.us.length k1, .bool x.un] 46)).alloc (.cells #[.int .u32 y.cl, .int .u64 y.rq, .slice q2 y.us.length k2, .bool y.un] 46) = W2 at *
        refine (cmd_op HU2.out HV2.out hl3 hl4).mono ?_
        obtain ⟨z, hz⟩ : ∃ z, decide (x = y) = z := ⟨_, rfl⟩
        rw [hz]
        have Hz := Lib.hid hz
        clear hz
        rintro _ w3 ⟨rfl, hb⟩
        have HB3 := Lib.hid (HB2.out.trans (hb.mono HB2.out.size))
        clear hb HB2 HU2 HV2 e0 e1 e2 e3 d0 d1 d2 d3
        cases z with
        | true =>
          have HN := Lib.hid (Hn2.out.1 (of_decide_eq_true Hz.out))
          clear Hn2
          go_wp2_with fail
          go_roundw
          case rel => exact ⟨j + 1, by omega, by go_num, Lib.hid ⟨HB3.out, HN.out⟩⟩
          case measure => simp [intOf]; omega
        | false =>
          obtain rfl : r = false := Hn2.out.2 (of_decide_eq_false Hz.out)
          clear Hn2
          go_wp2_with fail
          go_ret
          exact ⟨rfl, HB3.out⟩
      · obtain rfl : r = true := by
          rw [← Hr.out]
          refine decide_eq_true (List.ext_getElem Hlen.out fun i h1 h2 => hR.out.2 i h1 h2 (by omega))
        have HB := Lib.hid hR.out.1
        clear hR
        go_wp2_with fail
        go_ret
        exact ⟨rfl, HB.out⟩
  · have dl : ((us.length : Int) != (vs.length : Int)) = true := by simp; omega
    obtain rfl : r = false := by rw [← Hr.out]; exact decide_eq_false (fun e => hlen (by rw [e]))
    clear hlen
    go_enter Tryd.func46, Tryd.ntmps46
    go_wp2_with fail
    go_ret
    exact ⟨rfl, Below.refl _ w⟩
theorem an_eq (x y : An) : decide (x = y) = (x.err == y.err && (x.doc == y.doc && (x.rev == y.rev && ((x.whole == y.whole) && (decide (x.text = y.text) && (decide (x.ops = y.ops) && decide (x.seats = y.seats))))))) := by
  obtain ⟨a, b, c, d, e, f, g⟩ := x
  obtain ⟨a', b', c', d', e', f', g'⟩ := y
  rw [Bool.eq_iff_iff]
  simp only [decide_eq_true_eq, Bool.and_eq_true, beq_iff_eq, An.mk.injEq]
set_option maxHeartbeats 6400000 in
set_option maxRecDepth 100000 in
theorem cmd_SameAnswer {w : World} {S T : Nat → Prop} {x y : An} {p q s p2 q2 s2 : Option Addr} {c d e c2 d2 e2 : Nat} (ht : ChsRd w S (.slice p x.text.length c) x.text) (ho : OpsRd w S (.slice q x.ops.length d) x.ops) (hs : StsRd w S (.slice s x.seats.length e) x.seats) (kt : ChsRd w T (.slice p2 y.text.length c2) y.text) (ko : OpsRd w T (.slice q2 y.ops.length d2) y.ops) (ks : StsRd w T (.slice s2 y.seats.length e2) y.seats) (hw : WfA x) (hw2 : WfA y) :
    Calls Tryd.prog 16 #[.agg #[.int .i64 x.err, .int .u32 x.doc, .int .u64 x.rev, .bool x.whole, .slice p x.text.length c, .slice q x.ops.length d, .slice s x.seats.length e], .agg #[.int .i64 y.err, .int .u32 y.doc, .int .u64 y.rev, .bool y.whole, .slice p2 y.text.length c2, .slice q2 y.ops.length d2, .slice s2 y.seats.length e2]] w fun e w' => e = .returned (.bool (decide (x = y))) ∧ Below w.heap.size w w' := by
  obtain ⟨r, hr⟩ : ∃ z, decide (x = y) = z := ⟨_, rfl⟩
  rw [hr]
  rw [an_eq] at hr
  have lt1 := hw.text
  have lo1 := hw.nops
  have ls1 := hw.nseats
  have lt2 := hw2.text
  have lo2 := hw2.nops
  have ls2 := hw2.nseats
  have Hf1 := Lib.hid (show ∀ o ∈ x.ops, o.us.length ≤ 1000000 from fun o ho => by have := (hw.ops o ho).few; omega)
  have Hf2 := Lib.hid (show ∀ o ∈ y.ops, o.us.length ≤ 1000000 from fun o ho => by have := (hw2.ops o ho).few; omega)
  clear hw hw2
  obtain ⟨x0, x1, x2, x3, xt, xo, xs⟩ := x
  obtain ⟨y0, y1, y2, y3, yt, yo, ys⟩ := y
  simp only at ht ho hs kt ko ks hr lt1 lo1 ls1 lt2 lo2 ls2 Hf1 Hf2 ⊢
  have hb1 := (Below.refl w.heap.size w).alloc (Nat.le_refl _) (.cells #[.int .i64 x0, .int .u32 x1, .int .u64 x2, .bool x3, .slice p xt.length c, .slice q xo.length d, .slice s xs.length e] 41)
  have hb2 := hb1.alloc hb1.size (.cells #[.int .i64 y0, .int .u32 y1, .int .u64 y2, .bool y3, .slice p2 yt.length c2, .slice q2 yo.length d2, .slice s2 ys.length e2] 41)
  have hb12 := (Below.refl (w.alloc (.cells #[.int .i64 x0, .int .u32 x1, .int .u64 x2, .bool x3, .slice p xt.length c, .slice q xo.length d, .slice s xs.length e] 41)).heap.size (w.alloc (.cells #[.int .i64 x0, .int .u32 x1, .int .u64 x2, .bool x3, .slice p xt.length c, .slice q xo.length d, .slice s xs.length e] 41))).alloc (Nat.le_refl _) (.cells #[.int .i64 y0, .int .u32 y1, .int .u64 y2, .bool y3, .slice p2 yt.length c2, .slice q2 yo.length d2, .slice s2 ys.length e2] 41)
  have HK := Lib.hid ((Blk.new w 41 #[.int .i64 x0, .int .u32 x1, .int .u64 x2, .bool x3, .slice p xt.length c, .slice q xo.length d, .slice s xs.length e]).below hb12)
  have HL0 := Blk.new (w.alloc (.cells #[.int .i64 x0, .int .u32 x1, .int .u64 x2, .bool x3, .slice p xt.length c, .slice q xo.length d, .slice s xs.length e] 41)) 41 #[.int .i64 y0, .int .u32 y1, .int .u64 y2, .bool y3, .slice p2 yt.length c2, .slice q2 yo.length d2, .slice s2 ys.length e2]
  rw [World.size_alloc w] at HL0
  have HL := Lib.hid HL0
  clear HL0
  have HB := Lib.hid hb2
  have HT := Lib.hid (ht.below hb2)
  have HO := Lib.hid (ho.below hb2)
  have HS := Lib.hid (hs.below hb2)
  have KT := Lib.hid (kt.below hb2)
  have KO := Lib.hid (ko.below hb2)
  have KS := Lib.hid (ks.below hb2)
  clear ht ho hs kt ko ks hb1 hb2 hb12
  obtain ⟨z0, hz0⟩ : ∃ z, (x0 == y0) = z := ⟨_, rfl⟩
  rw [hz0] at hr
  have hn0 : (x0 != y0) = !z0 := by rw [← hz0]; rfl
  cases z0 with
  | false =>
    obtain rfl : r = false := by rw [← hr]; rfl
    go_enter Tryd.func16, Tryd.ntmps16
    have hK := HK.out
    have m0 := hK.cell 0
    have m1 := hK.cell 1
    have m2 := hK.cell 2
    have m3 := hK.cell 3
    have m4 := hK.cell 4
    have m5 := hK.cell 5
    have m6 := hK.cell 6
    have hz := hK.lt
    simp only [List.getElem?_toArray, List.getElem?_cons_succ, List.getElem?_cons_zero] at m0 m1 m2 m3 m4 m5 m6
    clear hK
    have hK := HL.out
    have n0 := hK.cell 0
    have n1 := hK.cell 1
    have n2 := hK.cell 2
    have n3 := hK.cell 3
    have n4 := hK.cell 4
    have n5 := hK.cell 5
    have n6 := hK.cell 6
    have hy := hK.lt
    simp only [List.getElem?_toArray, List.getElem?_cons_succ, List.getElem?_cons_zero] at n0 n1 n2 n3 n4 n5 n6
    clear hK
    go_wp2_with fail
    go_ret
    exact ⟨rfl, HB.out⟩
  | true =>
    rw [Bool.true_and] at hr
    obtain ⟨z1, hz1⟩ : ∃ z, (x1 == y1) = z := ⟨_, rfl⟩
    rw [hz1] at hr
    have hn1 : (x1 != y1) = !z1 := by rw [← hz1]; rfl
    cases z1 with
    | false =>
      obtain rfl : r = false := by rw [← hr]; rfl
      go_enter Tryd.func16, Tryd.ntmps16
      have hK := HK.out
      have m0 := hK.cell 0
      have m1 := hK.cell 1
      have m2 := hK.cell 2
      have m3 := hK.cell 3
      have m4 := hK.cell 4
      have m5 := hK.cell 5
      have m6 := hK.cell 6
      have hz := hK.lt
      simp only [List.getElem?_toArray, List.getElem?_cons_succ, List.getElem?_cons_zero] at m0 m1 m2 m3 m4 m5 m6
      clear hK
      have hK := HL.out
      have n0 := hK.cell 0
      have n1 := hK.cell 1
      have n2 := hK.cell 2
      have n3 := hK.cell 3
      have n4 := hK.cell 4
      have n5 := hK.cell 5
      have n6 := hK.cell 6
      have hy := hK.lt
      simp only [List.getElem?_toArray, List.getElem?_cons_succ, List.getElem?_cons_zero] at n0 n1 n2 n3 n4 n5 n6
      clear hK
      go_wp2_with fail
      go_ret
      exact ⟨rfl, HB.out⟩
    | true =>
      rw [Bool.true_and] at hr
      obtain ⟨z2, hz2⟩ : ∃ z, (x2 == y2) = z := ⟨_, rfl⟩
      rw [hz2] at hr
      have hn2 : (x2 != y2) = !z2 := by rw [← hz2]; rfl
      cases z2 with
      | false =>
        obtain rfl : r = false := by rw [← hr]; rfl
        go_enter Tryd.func16, Tryd.ntmps16
        have hK := HK.out
        have m0 := hK.cell 0
        have m1 := hK.cell 1
        have m2 := hK.cell 2
        have m3 := hK.cell 3
        have m4 := hK.cell 4
        have m5 := hK.cell 5
        have m6 := hK.cell 6
        have hz := hK.lt
        simp only [List.getElem?_toArray, List.getElem?_cons_succ, List.getElem?_cons_zero] at m0 m1 m2 m3 m4 m5 m6
        clear hK
        have hK := HL.out
        have n0 := hK.cell 0
        have n1 := hK.cell 1
        have n2 := hK.cell 2
        have n3 := hK.cell 3
        have n4 := hK.cell 4
        have n5 := hK.cell 5
        have n6 := hK.cell 6
        have hy := hK.lt
        simp only [List.getElem?_toArray, List.getElem?_cons_succ, List.getElem?_cons_zero] at n0 n1 n2 n3 n4 n5 n6
        clear hK
        go_wp2_with fail
        go_ret
        exact ⟨rfl, HB.out⟩
      | true =>
        rw [Bool.true_and] at hr
        by_cases hw : x3 = y3
        · subst hw
          rw [beq_self_eq_true, Bool.true_and] at hr
          obtain ⟨tb, htb⟩ : ∃ z, decide (xt = yt) = z := ⟨_, rfl⟩
          obtain ⟨ob, hob⟩ : ∃ z, decide (xo = yo) = z := ⟨_, rfl⟩
          rw [htb, hob] at hr
          have Htb := Lib.hid htb
          have Hob := Lib.hid hob
          have Hr := Lib.hid hr
          clear htb hob hr
          go_enter Tryd.func16, Tryd.ntmps16
          have hK := HK.out
          have m0 := hK.cell 0
          have m1 := hK.cell 1
          have m2 := hK.cell 2
          have m3 := hK.cell 3
          have m4 := hK.cell 4
          have m5 := hK.cell 5
          have m6 := hK.cell 6
          have hz := hK.lt
          simp only [List.getElem?_toArray, List.getElem?_cons_succ, List.getElem?_cons_zero] at m0 m1 m2 m3 m4 m5 m6
          clear hK
          have hK := HL.out
          have n0 := hK.cell 0
          have n1 := hK.cell 1
          have n2 := hK.cell 2
          have n3 := hK.cell 3
          have n4 := hK.cell 4
          have n5 := hK.cell 5
          have n6 := hK.cell 6
          have hy := hK.lt
          simp only [List.getElem?_toArray, List.getElem?_cons_succ, List.getElem?_cons_zero] at n0 n1 n2 n3 n4 n5 n6
          clear hK
          go_wp2_with fail
          generalize (w.alloc (.cells #[.int .i64 x0, .int .u32 x1, .int .u64 x2, .bool x3, .slice p xt.length c, .slice q xo.length d, .slice s xs.length e] 41)).alloc (.cells #[.int .i64 y0, .int .u32 y1, .int .u64 y2, .bool x3, .slice p2 yt.length c2, .slice q2 yo.length d2, .slice s2 ys.length e2] 41) = W2 at *
          refine (slices_Equal_C HT.out KT.out (by omega) (by omega)).mono ?_
          rw [Htb.out]
          rintro _ w1 ⟨rfl, hb⟩
          have HB1 := Lib.hid (HB.out.trans (hb.mono HB.out.size))
          have HK1 := Lib.hid (HK.out.below hb)
          have HL1 := Lib.hid (HL.out.below hb)
          have HT1 := Lib.hid (HT.out.below hb)
          have HO1 := Lib.hid (HO.out.below hb)
          have HS1 := Lib.hid (HS.out.below hb)
          have KT1 := Lib.hid (KT.out.below hb)
          have KO1 := Lib.hid (KO.out.below hb)
          have KS1 := Lib.hid (KS.out.below hb)
          clear hb HB HK HL HT HO HS KT KO KS m0 m1 m2 m3 m4 m5 m6 hz n0 n1 n2 n3 n4 n5 n6 hy
          rename_i w0
          have HB := HB1
          have HK := HK1
          have HL := HL1
          have HT := HT1
          have HO := HO1
          have HS := HS1
          have KT := KT1
          have KO := KO1
          have KS := KS1
          clear HB1 HK1 HL1 HT1 HO1 HS1 KT1 KO1 KS1
          have hK := HK.out
          have m0 := hK.cell 0
          have m1 := hK.cell 1
          have m2 := hK.cell 2
          have m3 := hK.cell 3
          have m4 := hK.cell 4
          have m5 := hK.cell 5
          have m6 := hK.cell 6
          have hz := hK.lt
          simp only [List.getElem?_toArray, List.getElem?_cons_succ, List.getElem?_cons_zero] at m0 m1 m2 m3 m4 m5 m6
          clear hK
          have hK := HL.out
          have n0 := hK.cell 0
          have n1 := hK.cell 1
          have n2 := hK.cell 2
          have n3 := hK.cell 3
          have n4 := hK.cell 4
          have n5 := hK.cell 5
          have n6 := hK.cell 6
          have hy := hK.lt
          simp only [List.getElem?_toArray, List.getElem?_cons_succ, List.getElem?_cons_zero] at n0 n1 n2 n3 n4 n5 n6
          clear hK
          cases tb with
          | false =>
            obtain rfl : r = false := by rw [← Hr.out]; rfl
            go_wp2_with fail
            go_ret
            exact ⟨rfl, HB.out⟩
          | true =>
            go_wp2_with fail
            refine (slices_EqualFunc HO.out KO.out (by omega) (by omega) Hf1.out Hf2.out).mono ?_
            rw [Hob.out]
            rintro _ w1 ⟨rfl, hb⟩
            have HB1 := Lib.hid (HB.out.trans (hb.mono HB.out.size))
            have HK1 := Lib.hid (HK.out.below hb)
            have HL1 := Lib.hid (HL.out.below hb)
            have HT1 := Lib.hid (HT.out.below hb)
            have HO1 := Lib.hid (HO.out.below hb)
            have HS1 := Lib.hid (HS.out.below hb)
            have KT1 := Lib.hid (KT.out.below hb)
            have KO1 := Lib.hid (KO.out.below hb)
            have KS1 := Lib.hid (KS.out.below hb)
            clear hb HB HK HL HT HO HS KT KO KS m0 m1 m2 m3 m4 m5 m6 hz n0 n1 n2 n3 n4 n5 n6 hy
            rename_i w0
            have HB := HB1
            have HK := HK1
            have HL := HL1
            have HT := HT1
            have HO := HO1
            have HS := HS1
            have KT := KT1
            have KO := KO1
            have KS := KS1
            clear HB1 HK1 HL1 HT1 HO1 HS1 KT1 KO1 KS1
            have hK := HK.out
            have m0 := hK.cell 0
            have m1 := hK.cell 1
            have m2 := hK.cell 2
            have m3 := hK.cell 3
            have m4 := hK.cell 4
            have m5 := hK.cell 5
            have m6 := hK.cell 6
            have hz := hK.lt
            simp only [List.getElem?_toArray, List.getElem?_cons_succ, List.getElem?_cons_zero] at m0 m1 m2 m3 m4 m5 m6
            clear hK
            have hK := HL.out
            have n0 := hK.cell 0
            have n1 := hK.cell 1
            have n2 := hK.cell 2
            have n3 := hK.cell 3
            have n4 := hK.cell 4
            have n5 := hK.cell 5
            have n6 := hK.cell 6
            have hy := hK.lt
            simp only [List.getElem?_toArray, List.getElem?_cons_succ, List.getElem?_cons_zero] at n0 n1 n2 n3 n4 n5 n6
            clear hK
            cases ob with
            | false =>
              obtain rfl : r = false := by rw [← Hr.out]; rfl
              go_wp2_with fail
              go_ret
              exact ⟨rfl, HB.out⟩
            | true =>
              go_wp2_with fail
              refine (slices_Equal_S HS.out KS.out (by omega) (by omega)).mono ?_
              rw [show decide (xs = ys) = r from Hr.out]
              rintro _ w1 ⟨rfl, hb⟩
              have HB1 := Lib.hid (HB.out.trans (hb.mono HB.out.size))
              have HK1 := Lib.hid (HK.out.below hb)
              have HL1 := Lib.hid (HL.out.below hb)
              have HT1 := Lib.hid (HT.out.below hb)
              have HO1 := Lib.hid (HO.out.below hb)
              have HS1 := Lib.hid (HS.out.below hb)
              have KT1 := Lib.hid (KT.out.below hb)
              have KO1 := Lib.hid (KO.out.below hb)
              have KS1 := Lib.hid (KS.out.below hb)
              clear hb HB HK HL HT HO HS KT KO KS m0 m1 m2 m3 m4 m5 m6 hz n0 n1 n2 n3 n4 n5 n6 hy
              rename_i w0
              have HB := HB1
              have HK := HK1
              have HL := HL1
              have HT := HT1
              have HO := HO1
              have HS := HS1
              have KT := KT1
              have KO := KO1
              have KS := KS1
              clear HB1 HK1 HL1 HT1 HO1 HS1 KT1 KO1 KS1
              have hK := HK.out
              have m0 := hK.cell 0
              have m1 := hK.cell 1
              have m2 := hK.cell 2
              have m3 := hK.cell 3
              have m4 := hK.cell 4
              have m5 := hK.cell 5
              have m6 := hK.cell 6
              have hz := hK.lt
              simp only [List.getElem?_toArray, List.getElem?_cons_succ, List.getElem?_cons_zero] at m0 m1 m2 m3 m4 m5 m6
              clear hK
              have hK := HL.out
              have n0 := hK.cell 0
              have n1 := hK.cell 1
              have n2 := hK.cell 2
              have n3 := hK.cell 3
              have n4 := hK.cell 4
              have n5 := hK.cell 5
              have n6 := hK.cell 6
              have hy := hK.lt
              simp only [List.getElem?_toArray, List.getElem?_cons_succ, List.getElem?_cons_zero] at n0 n1 n2 n3 n4 n5 n6
              clear hK
              go_wp2_with fail
              go_ret
              exact ⟨rfl, HB.out⟩
        · obtain rfl : x3 = !y3 := by cases x3 <;> cases y3 <;> simp_all
          obtain rfl : r = false := by rw [← hr]; cases y3 <;> rfl
          clear hw
          go_enter Tryd.func16, Tryd.ntmps16
          have hK := HK.out
          have m0 := hK.cell 0
          have m1 := hK.cell 1
          have m2 := hK.cell 2
          have m3 := hK.cell 3
          have m4 := hK.cell 4
          have m5 := hK.cell 5
          have m6 := hK.cell 6
          have hz := hK.lt
          simp only [List.getElem?_toArray, List.getElem?_cons_succ, List.getElem?_cons_zero] at m0 m1 m2 m3 m4 m5 m6
          clear hK
          have hK := HL.out
          have n0 := hK.cell 0
          have n1 := hK.cell 1
          have n2 := hK.cell 2
          have n3 := hK.cell 3
          have n4 := hK.cell 4
          have n5 := hK.cell 5
          have n6 := hK.cell 6
          have hy := hK.lt
          simp only [List.getElem?_toArray, List.getElem?_cons_succ, List.getElem?_cons_zero] at n0 n1 n2 n3 n4 n5 n6
          clear hK
          go_wp2_with fail
          go_ret
          exact ⟨rfl, HB.out⟩
end Go.Proofs.YtciojggkcmdjiaaDoor
