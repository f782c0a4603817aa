/-
  copybookref15.SameAnswer: its contract. (Printed by wip/gen_refsa15.py.)
-/
import Derived.Test.YtciojggkcmdjiaaDoorSamA15
import Derived.Test.YtciojggkcmdjiaaDoorOrd
namespace Go.Proofs.YtciojggkcmdjiaaDoor
open Go.RowKit
set_option linter.unusedSimpArgs false
set_option linter.unusedVariables false

set_option maxHeartbeats 6400000 in
set_option maxRecDepth 100000 in
theorem ref_SameAnswer {w : World} {S T : Nat → Prop} {x y : An} {p q s p2 q2 s2 : Option Addr} {c d e c2 d2 e2 : Nat} (ht : ChsRd w S (.slice p x.text.length c) x.text) (ho : OpsRd w S (.slice q x.ops.length d) x.ops) (hs : StsRd w S (.slice s x.seats.length e) x.seats) (kt : ChsRd w T (.slice p2 y.text.length c2) y.text) (ko : OpsRd w T (.slice q2 y.ops.length d2) y.ops) (ks : StsRd w T (.slice s2 y.seats.length e2) y.seats) (hw : WfA x) (hw2 : WfA y) :
    Calls Tryd.prog 17 #[.agg #[.int .i64 x.err, .int .u32 x.doc, .int .u64 x.rev, .bool x.whole, .slice p x.text.length c, .slice q x.ops.length d, .slice s x.seats.length e], .agg #[.int .i64 y.err, .int .u32 y.doc, .int .u64 y.rev, .bool y.whole, .slice p2 y.text.length c2, .slice q2 y.ops.length d2, .slice s2 y.seats.length e2]] w fun e w' => e = .returned (.bool (decide (x = y))) ∧ Below w.heap.size w w' := by
  obtain ⟨r, hr⟩ : ∃ z, decide (x = y) = z := ⟨_, rfl⟩
  rw [hr]
  rw [an_eq] at hr
  have lt1 := hw.text
  have lo1 := hw.nops
  have ls1 := hw.nseats
  have lt2 := hw2.text
  have lo2 := hw2.nops
  have ls2 := hw2.nseats
  have Hf1 := Lib.hid (show ∀ o ∈ x.ops, o.us.length ≤ 1000000 from fun o ho => by have := (hw.ops o ho).few; omega)
  have Hf2 := Lib.hid (show ∀ o ∈ y.ops, o.us.length ≤ 1000000 from fun o ho => by have := (hw2.ops o ho).few; omega)
  clear hw hw2
  obtain ⟨x0, x1, x2, x3, xt, xo, xs⟩ := x
  obtain ⟨y0, y1, y2, y3, yt, yo, ys⟩ := y
  simp only at ht ho hs kt ko ks hr lt1 lo1 ls1 lt2 lo2 ls2 Hf1 Hf2 ⊢
  have hb1 := (Below.refl w.heap.size w).alloc (Nat.le_refl _) (.cells #[.int .i64 x0, .int .u32 x1, .int .u64 x2, .bool x3, .slice p xt.length c, .slice q xo.length d, .slice s xs.length e] 41)
  have hb2 := hb1.alloc hb1.size (.cells #[.int .i64 y0, .int .u32 y1, .int .u64 y2, .bool y3, .slice p2 yt.length c2, .slice q2 yo.length d2, .slice s2 ys.length e2] 41)
  have hb12 := (Below.refl (w.alloc (.cells #[.int .i64 x0, .int .u32 x1, .int .u64 x2, .bool x3, .slice p xt.length c, .slice q xo.length d, .slice s xs.length e] 41)).heap.size (w.alloc (.cells #[.int .i64 x0, .int .u32 x1, .int .u64 x2, .bool x3, .slice p xt.length c, .slice q xo.length d, .slice s xs.length e] 41))).alloc (Nat.le_refl _) (.cells #[.int .i64 y0, .int .u32 y1, .int .u64 y2, .bool y3, .slice p2 yt.length c2, .slice q2 yo.length d2, .slice s2 ys.length e2] 41)
  have HK := Lib.hid ((Blk.new w 41 #[.int .i64 x0, .int .u32 x1, .int .u64 x2, .bool x3, .slice p xt.length c, .slice q xo.length d, .slice s xs.length e]).below hb12)
  have HL0 := Blk.new (w.alloc (.cells #[.int .i64 x0, .int .u32 x1, .int .u64 x2, .bool x3, .slice p xt.length c, .slice q xo.length d, .slice s xs.length e] 41)) 41 #[.int .i64 y0, .int .u32 y1, .int .u64 y2, .bool y3, .slice p2 yt.length c2, .slice q2 yo.length d2, .slice s2 ys.length e2]
  rw [World.size_alloc w] at HL0
  have HL := Lib.hid HL0
  clear HL0
  have HB := Lib.hid hb2
  have HT := Lib.hid (ht.below hb2)
  have HO := Lib.hid (ho.below hb2)
  have HS := Lib.hid (hs.below hb2)
  have KT := Lib.hid (kt.below hb2)
  have KO := Lib.hid (ko.below hb2)
  have KS := Lib.hid (ks.below hb2)
  clear ht ho hs kt ko ks hb1 hb2 hb12
  obtain ⟨z0, hz0⟩ : ∃ z, (x0 == y0) = z := ⟨_, rfl⟩
  rw [hz0] at hr
  have hn0 : (x0 != y0) = !z0 := by rw [← hz0]; rfl
  cases z0 with
  | false =>
    obtain rfl : r = false := by rw [← hr]; rfl
    go_enter Tryd.func17, Tryd.ntmps17
    have hK := HK.out
    have m0 := hK.cell 0
    have m1 := hK.cell 1
    have m2 := hK.cell 2
    have m3 := hK.cell 3
    have m4 := hK.cell 4
    have m5 := hK.cell 5
    have m6 := hK.cell 6
    have hz := hK.lt
    simp only [List.getElem?_toArray, List.getElem?_cons_succ, List.getElem?_cons_zero] at m0 m1 m2 m3 m4 m5 m6
    clear hK
    have hK := HL.out
    have n0 := hK.cell 0
    have n1 := hK.cell 1
    have n2 := hK.cell 2
    have n3 := hK.cell 3
    have n4 := hK.cell 4
    have n5 := hK.cell 5
    have n6 := hK.cell 6
    have hy := hK.lt
    simp only [List.getElem?_toArray, List.getElem?_cons_succ, List.getElem?_cons_zero] at n0 n1 n2 n3 n4 n5 n6
    clear hK
    go_wp2_with fail
    go_ret
    exact ⟨rfl, HB.out⟩
  | true =>
    rw [Bool.true_and] at hr
    obtain ⟨z1, hz1⟩ : ∃ z, (x1 == y1) = z := ⟨_, rfl⟩
    rw [hz1] at hr
    have hn1 : (x1 != y1) = !z1 := by rw [← hz1]; rfl
    cases z1 with
    | false =>
      obtain rfl : r = false := by rw [← hr]; rfl
      go_enter Tryd.func17, Tryd.ntmps17
      have hK := HK.out
      have m0 := hK.cell 0
      have m1 := hK.cell 1
      have m2 := hK.cell 2
      have m3 := hK.cell 3
      have m4 := hK.cell 4
      have m5 := hK.cell 5
      have m6 := hK.cell 6
      have hz := hK.lt
      simp only [List.getElem?_toArray, List.getElem?_cons_succ, List.getElem?_cons_zero] at m0 m1 m2 m3 m4 m5 m6
      clear hK
      have hK := HL.out
      have n0 := hK.cell 0
      have n1 := hK.cell 1
      have n2 := hK.cell 2
      have n3 := hK.cell 3
      have n4 := hK.cell 4
      have n5 := hK.cell 5
      have n6 := hK.cell 6
      have hy := hK.lt
      simp only [List.getElem?_toArray, List.getElem?_cons_succ, List.getElem?_cons_zero] at n0 n1 n2 n3 n4 n5 n6
      clear hK
      go_wp2_with fail
      go_ret
      exact ⟨rfl, HB.out⟩
    | true =>
      rw [Bool.true_and] at hr
      obtain ⟨z2, hz2⟩ : ∃ z, (x2 == y2) = z := ⟨_, rfl⟩
      rw [hz2] at hr
      have hn2 : (x2 != y2) = !z2 := by rw [← hz2]; rfl
      cases z2 with
      | false =>
        obtain rfl : r = false := by rw [← hr]; rfl
        go_enter Tryd.func17, Tryd.ntmps17
        have hK := HK.out
        have m0 := hK.cell 0
        have m1 := hK.cell 1
        have m2 := hK.cell 2
        have m3 := hK.cell 3
        have m4 := hK.cell 4
        have m5 := hK.cell 5
        have m6 := hK.cell 6
        have hz := hK.lt
        simp only [List.getElem?_toArray, List.getElem?_cons_succ, List.getElem?_cons_zero] at m0 m1 m2 m3 m4 m5 m6
        clear hK
        have hK := HL.out
        have n0 := hK.cell 0
        have n1 := hK.cell 1
        have n2 := hK.cell 2
        have n3 := hK.cell 3
        have n4 := hK.cell 4
        have n5 := hK.cell 5
        have n6 := hK.cell 6
        have hy := hK.lt
        simp only [List.getElem?_toArray, List.getElem?_cons_succ, List.getElem?_cons_zero] at n0 n1 n2 n3 n4 n5 n6
        clear hK
        go_wp2_with fail
        go_ret
        exact ⟨rfl, HB.out⟩
      | true =>
        rw [Bool.true_and] at hr
        by_cases hw : x3 = y3
        · subst hw
          rw [beq_self_eq_true, Bool.true_and] at hr
          obtain ⟨tb, htb⟩ : ∃ z, decide (xt = yt) = z := ⟨_, rfl⟩
          obtain ⟨ob, hob⟩ : ∃ z, decide (xo = yo) = z := ⟨_, rfl⟩
          rw [htb, hob] at hr
          have Htb := Lib.hid htb
          have Hob := Lib.hid hob
          have Hr := Lib.hid hr
          clear htb hob hr
          go_enter Tryd.func17, Tryd.ntmps17
          have hK := HK.out
          have m0 := hK.cell 0
          have m1 := hK.cell 1
          have m2 := hK.cell 2
          have m3 := hK.cell 3
          have m4 := hK.cell 4
          have m5 := hK.cell 5
          have m6 := hK.cell 6
          have hz := hK.lt
          simp only [List.getElem?_toArray, List.getElem?_cons_succ, List.getElem?_cons_zero] at m0 m1 m2 m3 m4 m5 m6
          clear hK
          have hK := HL.out
          have n0 := hK.cell 0
          have n1 := hK.cell 1
          have n2 := hK.cell 2
          have n3 := hK.cell 3
          have n4 := hK.cell 4
          have n5 := hK.cell 5
          have n6 := hK.cell 6
          have hy := hK.lt
          simp only [List.getElem?_toArray, List.getElem?_cons_succ, List.getElem?_cons_zero] at n0 n1 n2 n3 n4 n5 n6
          clear hK
          go_wp2_with fail
          generalize (w.alloc (.cells #[.int .i64 x0, .int .u32 x1, .int .u64 x2, .bool x3, .slice p xt.length c, .slice q xo.length d, .slice s xs.length e] 41)).alloc (.cells #[.int .i64 y0, .int .u32 y1, .int .u64 y2, .bool x3, .slice p2 yt.length c2, .slice q2 yo.length d2, .slice s2 ys.length e2] 41) = W2 at *
          refine (ref04_Same HT.out KT.out (by omega) (by omega)).mono ?_
          rw [Htb.out]
          rintro _ w1 ⟨rfl, hb⟩
          have HB1 := Lib.hid (HB.out.trans (hb.mono HB.out.size))
          have HK1 := Lib.hid (HK.out.below hb)
          have HL1 := Lib.hid (HL.out.below hb)
          have HT1 := Lib.hid (HT.out.below hb)
          have HO1 := Lib.hid (HO.out.below hb)
          have HS1 := Lib.hid (HS.out.below hb)
          have KT1 := Lib.hid (KT.out.below hb)
          have KO1 := Lib.hid (KO.out.below hb)
          have KS1 := Lib.hid (KS.out.below hb)
          clear hb HB HK HL HT HO HS KT KO KS m0 m1 m2 m3 m4 m5 m6 hz n0 n1 n2 n3 n4 n5 n6 hy
          have HB := HB1
          have HK := HK1
          have HL := HL1
          have HT := HT1
          have HO := HO1
          have HS := HS1
          have KT := KT1
          have KO := KO1
          have KS := KS1
          clear HB1 HK1 HL1 HT1 HO1 HS1 KT1 KO1 KS1
          have hK := HK.out
          have m0 := hK.cell 0
          have m1 := hK.cell 1
          have m2 := hK.cell 2
          have m3 := hK.cell 3
          have m4 := hK.cell 4
          have m5 := hK.cell 5
          have m6 := hK.cell 6
          have hz := hK.lt
          simp only [List.getElem?_toArray, List.getElem?_cons_succ, List.getElem?_cons_zero] at m0 m1 m2 m3 m4 m5 m6
          clear hK
          have hK := HL.out
          have n0 := hK.cell 0
          have n1 := hK.cell 1
          have n2 := hK.cell 2
          have n3 := hK.cell 3
          have n4 := hK.cell 4
          have n5 := hK.cell 5
          have n6 := hK.cell 6
          have hy := hK.lt
          simp only [List.getElem?_toArray, List.getElem?_cons_succ, List.getElem?_cons_zero] at n0 n1 n2 n3 n4 n5 n6
          clear hK
          cases tb with
          | false =>
            obtain rfl : r = false := by rw [← Hr.out]; rfl
            go_wp2_with fail
            go_ret
            exact ⟨rfl, HB.out⟩
          | true =>
            by_cases hlo : xo.length = yo.length
            · have Hlo := Lib.hid hlo
              have dl : ((xo.length : Int) != (yo.length : Int)) = false := by simp; omega
              by_cases hls : xs.length = ys.length
              · have Hls := Lib.hid hls
                have dl2 : ((xs.length : Int) != (ys.length : Int)) = false := by simp; omega
                have hlo2 : yo.length ≤ xo.length ∧ xo.length ≤ yo.length := by omega
                have hls2 : ys.length ≤ xs.length ∧ xs.length ≤ ys.length := by omega
                clear hlo hls
                go_wp2_with fail
                clear m0 m1 m2 m3 m4 m5 m6 hz n0 n1 n2 n3 n4 n5 n6 hy
                go_loopw [5] (fun iv wr => ∃ k : Nat, k ≤ xo.length ∧ iv = .int .i64 k ∧ Hid (Below w1.heap.size w1 wr ∧ ∀ i (hi : i < xo.length) (hi2 : i < yo.length), i < k → xo[i] = yo[i])) (fun iv _ => xo.length - (intOf iv).toNat)
                case atStart => exact ⟨0, Nat.zero_le _, rfl, Lib.hid ⟨Below.refl _ _, fun i _ _ h => absurd h (by omega)⟩⟩
                case round =>
                  obtain ⟨w5, hw5⟩ : ∃ x, x = wr := ⟨_, rfl⟩
                  subst hw5
                  obtain ⟨k, hk, rfl, hR⟩ := hrel
                  have hK := HK.out.below hR.out.1
                  have m0 := hK.cell 0
                  have m1 := hK.cell 1
                  have m2 := hK.cell 2
                  have m3 := hK.cell 3
                  have m4 := hK.cell 4
                  have m5 := hK.cell 5
                  have m6 := hK.cell 6
                  have hz := hK.lt
                  simp only [List.getElem?_toArray, List.getElem?_cons_succ, List.getElem?_cons_zero] at m0 m1 m2 m3 m4 m5 m6
                  clear hK
                  have hK := HL.out.below hR.out.1
                  have n0 := hK.cell 0
                  have n1 := hK.cell 1
                  have n2 := hK.cell 2
                  have n3 := hK.cell 3
                  have n4 := hK.cell 4
                  have n5 := hK.cell 5
                  have n6 := hK.cell 6
                  have hy := hK.lt
                  simp only [List.getElem?_toArray, List.getElem?_cons_succ, List.getElem?_cons_zero] at n0 n1 n2 n3 n4 n5 n6
                  clear hK
                  by_cases hlt : k < xo.length
                  · have hlt2 : k < yo.length := by omega
                    have hlti : (k : Int) < (xo.length : Int) := by omega
                    obtain ⟨g, off, q1, k1, rfl, hc, e0, e1, e2, e3, hu⟩ := (HO.out.below hR.out.1).at_ hlt
                    obtain ⟨g', off', q3, k3, rfl, hd, d0, d1, d2_, d3, hv⟩ := (KO.out.below hR.out.1).at_ hlt2
                    have Hn := Lib.hid (show ∀ (x y : _), xo[k] = x → yo[k] = y → (x = y → ∀ i (hi : i < xo.length) (hi2 : i < yo.length), i < k + 1 → xo[i] = yo[i]) ∧ (x ≠ y → r = false) from fun x y hx hy => ⟨fun e i hi hi2 hij => by
                        rcases Nat.lt_succ_iff_lt_or_eq.1 hij with h | rfl
                        · exact hR.out.2 i hi hi2 h
                        · rw [hx, hy, e], fun hne => by
                        have : ob = false := by
                          rw [← Hob.out]
                          refine decide_eq_false (fun e => hne ?_)
                          subst e
                          rw [← hx, ← hy]
                        subst this
                        rw [← Hr.out]
                        rfl⟩)
                    have Hn2 := Lib.hid (Hn.out _ _ rfl rfl)
                    have hl3 := Hf1.out _ (List.getElem_mem hlt)
                    have hl4 := Hf2.out _ (List.getElem_mem hlt2)
                    generalize xo[k]'hlt = x at *
                    generalize yo[k]'hlt2 = y at *
                    have HBr := Lib.hid hR.out.1
                    have HU := Lib.hid hu
                    have HV := Lib.hid hv
                    clear Hn hR hu hv
                    go_wp2_with fail
                    have hS : Holds [(w.heap.size, 5, .slice (some ⟨g, off, none⟩) xo.length d), (w.heap.size + 1, 5, .slice (some ⟨g', off', none⟩) yo.length d2), (g, off + k * 4, .int .u32 x.cl), (g, off + k * 4 + 1, .int .u64 x.rq), (g, off + k * 4 + 2, .slice q1 x.us.length k1), (g, off + k * 4 + 3, .bool x.un), (g', off' + k * 4, .int .u32 y.cl), (g', off' + k * 4 + 1, .int .u64 y.rq), (g', off' + k * 4 + 2, .slice q3 y.us.length k3), (g', off' + k * 4 + 3, .bool y.un)] w5.drew := ⟨m5, n5, e0, e1, e2, e3, d0, d1, d2_, d3, trivial⟩
                    have hT : Hold0 w5.drew := trivial
                    refine begin_D [] (by kernel_rfl) hS (fun _ => hT) ?_
                    refine take_S (v := ?v0) 0 rfl (by kernel_rfl) (by kernel_rfl) (by kernel_rfl) (by kernel_rfl) (fun _ _ _ h => h) hS (fun _ => hT) rfl (fun w' hq => ?h0) ?_
                    case h0 => obtain ⟨hq0, hq1, hq2, hq3, hq4, hq5, hq6, hq7, hq8, hq9, -⟩ := hq; change _ = some _ at hq0; change _ = some _ at hq1; change _ = some _ at hq2; change _ = some _ at hq3; change _ = some _ at hq4; change _ = some _ at hq5; change _ = some _ at hq6; change _ = some _ at hq7; change _ = some _ at hq8; change _ = some _ at hq9; go_simp; try with_reducible rfl
                    try simp only [Act.put, List.setIfInBounds_toArray, List.set_cons_zero, List.set_cons_succ, List.getElem_toArray, List.getElem_cons_succ, List.getElem_cons_zero]
                    refine take_S (v := ?v1) 1 rfl (by kernel_rfl) (by kernel_rfl) (by kernel_rfl) (by kernel_rfl) (fun _ _ _ h => h) hS (fun _ => hT) rfl (fun w' hq => ?h1) ?_
                    case h1 => obtain ⟨hq0, hq1, hq2, hq3, hq4, hq5, hq6, hq7, hq8, hq9, -⟩ := hq; change _ = some _ at hq0; change _ = some _ at hq1; change _ = some _ at hq2; change _ = some _ at hq3; change _ = some _ at hq4; change _ = some _ at hq5; change _ = some _ at hq6; change _ = some _ at hq7; change _ = some _ at hq8; change _ = some _ at hq9; go_simp; try with_reducible rfl
                    try simp only [Act.put, List.setIfInBounds_toArray, List.set_cons_zero, List.set_cons_succ, List.getElem_toArray, List.getElem_cons_succ, List.getElem_cons_zero]
                    refine take_S (v := ?v2) 2 rfl (by kernel_rfl) (by kernel_rfl) (by kernel_rfl) (by kernel_rfl) (fun _ _ _ h => h) hS (fun _ => hT) rfl (fun w' hq => ?h2) ?_
                    case h2 => obtain ⟨hq0, hq1, hq2, hq3, hq4, hq5, hq6, hq7, hq8, hq9, -⟩ := hq; change _ = some _ at hq0; change _ = some _ at hq1; change _ = some _ at hq2; change _ = some _ at hq3; change _ = some _ at hq4; change _ = some _ at hq5; change _ = some _ at hq6; change _ = some _ at hq7; change _ = some _ at hq8; change _ = some _ at hq9; go_simp; try with_reducible rfl
                    try simp only [Act.put, List.setIfInBounds_toArray, List.set_cons_zero, List.set_cons_succ, List.getElem_toArray, List.getElem_cons_succ, List.getElem_cons_zero]
                    refine take_S (v := ?v3) 3 rfl (by kernel_rfl) (by kernel_rfl) (by kernel_rfl) (by kernel_rfl) (fun _ _ _ h => h) hS (fun _ => hT) rfl (fun w' hq => ?h3) ?_
                    case h3 => obtain ⟨hq0, hq1, hq2, hq3, hq4, hq5, hq6, hq7, hq8, hq9, -⟩ := hq; change _ = some _ at hq0; change _ = some _ at hq1; change _ = some _ at hq2; change _ = some _ at hq3; change _ = some _ at hq4; change _ = some _ at hq5; change _ = some _ at hq6; change _ = some _ at hq7; change _ = some _ at hq8; change _ = some _ at hq9; go_simp; try with_reducible rfl
                    try simp only [Act.put, List.setIfInBounds_toArray, List.set_cons_zero, List.set_cons_succ, List.getElem_toArray, List.getElem_cons_succ, List.getElem_cons_zero]
                    refine take_S (v := ?v4) 4 rfl (by kernel_rfl) (by kernel_rfl) (by kernel_rfl) (by kernel_rfl) (fun _ _ _ h => h) hS (fun _ => hT) rfl (fun w' hq => ?h4) ?_
                    case h4 => obtain ⟨hq0, hq1, hq2, hq3, hq4, hq5, hq6, hq7, hq8, hq9, -⟩ := hq; change _ = some _ at hq0; change _ = some _ at hq1; change _ = some _ at hq2; change _ = some _ at hq3; change _ = some _ at hq4; change _ = some _ at hq5; change _ = some _ at hq6; change _ = some _ at hq7; change _ = some _ at hq8; change _ = some _ at hq9; go_simp; try with_reducible rfl
                    try simp only [Act.put, List.setIfInBounds_toArray, List.set_cons_zero, List.set_cons_succ, List.getElem_toArray, List.getElem_cons_succ, List.getElem_cons_zero]
                    refine take_S (v := ?v5) 5 rfl (by kernel_rfl) (by kernel_rfl) (by kernel_rfl) (by kernel_rfl) (fun _ _ _ h => h) hS (fun _ => hT) rfl (fun w' hq => ?h5) ?_
                    case h5 => obtain ⟨hq0, hq1, hq2, hq3, hq4, hq5, hq6, hq7, hq8, hq9, -⟩ := hq; change _ = some _ at hq0; change _ = some _ at hq1; change _ = some _ at hq2; change _ = some _ at hq3; change _ = some _ at hq4; change _ = some _ at hq5; change _ = some _ at hq6; change _ = some _ at hq7; change _ = some _ at hq8; change _ = some _ at hq9; go_simp; try with_reducible rfl
                    try simp only [Act.put, List.setIfInBounds_toArray, List.set_cons_zero, List.set_cons_succ, List.getElem_toArray, List.getElem_cons_succ, List.getElem_cons_zero]
                    refine take_S (v := ?v6) 6 rfl (by kernel_rfl) (by kernel_rfl) (by kernel_rfl) (by kernel_rfl) (fun _ _ _ h => h) hS (fun _ => hT) rfl (fun w' hq => ?h6) ?_
                    case h6 => obtain ⟨hq0, hq1, hq2, hq3, hq4, hq5, hq6, hq7, hq8, hq9, -⟩ := hq; change _ = some _ at hq0; change _ = some _ at hq1; change _ = some _ at hq2; change _ = some _ at hq3; change _ = some _ at hq4; change _ = some _ at hq5; change _ = some _ at hq6; change _ = some _ at hq7; change _ = some _ at hq8; change _ = some _ at hq9; go_simp; try with_reducible rfl
                    try simp only [Act.put, List.setIfInBounds_toArray, List.set_cons_zero, List.set_cons_succ, List.getElem_toArray, List.getElem_cons_succ, List.getElem_cons_zero]
                    refine take_S (v := ?v7) 7 rfl (by kernel_rfl) (by kernel_rfl) (by kernel_rfl) (by kernel_rfl) (fun _ _ _ h => h) hS (fun _ => hT) rfl (fun w' hq => ?h7) ?_
                    case h7 => obtain ⟨hq0, hq1, hq2, hq3, hq4, hq5, hq6, hq7, hq8, hq9, -⟩ := hq; change _ = some _ at hq0; change _ = some _ at hq1; change _ = some _ at hq2; change _ = some _ at hq3; change _ = some _ at hq4; change _ = some _ at hq5; change _ = some _ at hq6; change _ = some _ at hq7; change _ = some _ at hq8; change _ = some _ at hq9; go_simp; try with_reducible rfl
                    try simp only [Act.put, List.setIfInBounds_toArray, List.set_cons_zero, List.set_cons_succ, List.getElem_toArray, List.getElem_cons_succ, List.getElem_cons_zero]
                    refine take_S (v := ?v8) 8 rfl (by kernel_rfl) (by kernel_rfl) (by kernel_rfl) (by kernel_rfl) (fun _ _ _ h => h) hS (fun _ => hT) rfl (fun w' hq => ?h8) ?_
                    case h8 => obtain ⟨hq0, hq1, hq2, hq3, hq4, hq5, hq6, hq7, hq8, hq9, -⟩ := hq; change _ = some _ at hq0; change _ = some _ at hq1; change _ = some _ at hq2; change _ = some _ at hq3; change _ = some _ at hq4; change _ = some _ at hq5; change _ = some _ at hq6; change _ = some _ at hq7; change _ = some _ at hq8; change _ = some _ at hq9; go_simp; try with_reducible rfl
                    try simp only [Act.put, List.setIfInBounds_toArray, List.set_cons_zero, List.set_cons_succ, List.getElem_toArray, List.getElem_cons_succ, List.getElem_cons_zero]
                    refine take_S (v := ?v9) 9 rfl (by kernel_rfl) (by kernel_rfl) (by kernel_rfl) (by kernel_rfl) (fun _ _ _ h => h) hS (fun _ => hT) rfl (fun w' hq => ?h9) ?_
                    case h9 => obtain ⟨hq0, hq1, hq2, hq3, hq4, hq5, hq6, hq7, hq8, hq9, -⟩ := hq; change _ = some _ at hq0; change _ = some _ at hq1; change _ = some _ at hq2; change _ = some _ at hq3; change _ = some _ at hq4; change _ = some _ at hq5; change _ = some _ at hq6; change _ = some _ at hq7; change _ = some _ at hq8; change _ = some _ at hq9; go_simp; try with_reducible rfl
                    try simp only [Act.put, List.setIfInBounds_toArray, List.set_cons_zero, List.set_cons_succ, List.getElem_toArray, List.getElem_cons_succ, List.getElem_cons_zero]
                    refine one_D 10 rfl (by kernel_rfl) (fun KQ hK => ?_)
                    go_simp
                    refine (ref_op (HU.out.below (Below.refl _ w5).drew) (HV.out.below (Below.refl _ w5).drew) hl3 hl4).mono ?_
                    obtain ⟨z, hz⟩ : ∃ z, decide (x = y) = z := ⟨_, rfl⟩
                    rw [hz]
                    have Hz := Lib.hid hz
                    clear hz
                    rintro _ w6 ⟨rfl, hb1⟩
                    have g_ : ∀ b o v, w5.cell? ⟨b, o, none⟩ = some v → w6.cell? ⟨b, o, none⟩ = some v := fun b o v h => (hb1.cell (p := ⟨b, o, none⟩) (lt_of_cell h)).trans h
                    have Hbw := Lib.hid (HBr.out.drew.trans (hb1.mono HBr.out.size))
                    refine hK.out _ _ ⟨g_ _ _ _ m5, g_ _ _ _ n5, g_ _ _ _ e0, g_ _ _ _ e1, g_ _ _ _ e2, g_ _ _ _ e3, g_ _ _ _ d0, g_ _ _ _ d1, g_ _ _ _ d2_, g_ _ _ _ d3, trivial⟩ (fun _ => trivial) ?_
                    have hS1 : Holds [(w.heap.size, 5, .slice (some ⟨g, off, none⟩) xo.length d), (w.heap.size + 1, 5, .slice (some ⟨g', off', none⟩) yo.length d2), (g, off + k * 4, .int .u32 x.cl), (g, off + k * 4 + 1, .int .u64 x.rq), (g, off + k * 4 + 2, .slice q1 x.us.length k1), (g, off + k * 4 + 3, .bool x.un), (g', off' + k * 4, .int .u32 y.cl), (g', off' + k * 4 + 1, .int .u64 y.rq), (g', off' + k * 4 + 2, .slice q3 y.us.length k3), (g', off' + k * 4 + 3, .bool y.un)] w6 := ⟨g_ _ _ _ m5, g_ _ _ _ n5, g_ _ _ _ e0, g_ _ _ _ e1, g_ _ _ _ e2, g_ _ _ _ e3, g_ _ _ _ d0, g_ _ _ _ d1, g_ _ _ _ d2_, g_ _ _ _ d3, trivial⟩
                    clear hK hS hb1 g_ e0 e1 e2 e3 d0 d1 d2_ d3 m0 m1 m2 m3 m4 m5 m6 hz n0 n1 n2 n3 n4 n5 n6 hy
                    refine take_S (v := ?v11) 11 rfl (by kernel_rfl) (by kernel_rfl) (by kernel_rfl) (by kernel_rfl) (fun _ _ _ h => h) hS1 (fun _ => trivial) rfl (fun w' hq => ?h11) ?_
                    case h11 => obtain ⟨hq0, hq1, hq2, hq3, hq4, hq5, hq6, hq7, hq8, hq9, -⟩ := hq; change _ = some _ at hq0; change _ = some _ at hq1; change _ = some _ at hq2; change _ = some _ at hq3; change _ = some _ at hq4; change _ = some _ at hq5; change _ = some _ at hq6; change _ = some _ at hq7; change _ = some _ at hq8; change _ = some _ at hq9; go_simp; try with_reducible rfl
                    try simp only [Act.put, List.setIfInBounds_toArray, List.set_cons_zero, List.set_cons_succ, List.getElem_toArray, List.getElem_cons_succ, List.getElem_cons_zero]
                    refine done_D (by kernel_rfl) ?_ _
                    clear hS1 hT
                    have hK := HK.out.below Hbw.out
                    have m0 := hK.cell 0
                    have m1 := hK.cell 1
                    have m2 := hK.cell 2
                    have m3 := hK.cell 3
                    have m4 := hK.cell 4
                    have m5 := hK.cell 5
                    have m6 := hK.cell 6
                    have hz := hK.lt
                    simp only [List.getElem?_toArray, List.getElem?_cons_succ, List.getElem?_cons_zero] at m0 m1 m2 m3 m4 m5 m6
                    clear hK
                    have hK := HL.out.below Hbw.out
                    have n0 := hK.cell 0
                    have n1 := hK.cell 1
                    have n2 := hK.cell 2
                    have n3 := hK.cell 3
                    have n4 := hK.cell 4
                    have n5 := hK.cell 5
                    have n6 := hK.cell 6
                    have hy := hK.lt
                    simp only [List.getElem?_toArray, List.getElem?_cons_succ, List.getElem?_cons_zero] at n0 n1 n2 n3 n4 n5 n6
                    clear hK
                    cases z with
                    | true =>
                      have HN := Lib.hid (Hn2.out.1 (of_decide_eq_true Hz.out))
                      clear Hn2
                      go_wp2_with fail
                      go_roundw
                      case rel => exact ⟨k + 1, by omega, by go_num, Lib.hid ⟨Hbw.out, HN.out⟩⟩
                      case measure => simp [intOf]; omega
                    | false =>
                      obtain rfl : r = false := Hn2.out.2 (of_decide_eq_false Hz.out)
                      have HBf := Lib.hid (HB.out.trans (Hbw.out.mono HB.out.size))
                      clear Hn2
                      go_wp2_with fail
                      go_ret
                      exact ⟨rfl, HBf.out⟩
                  · obtain rfl : k = xo.length := by omega
                    obtain rfl : ob = true := by
                      rw [← Hob.out]
                      refine decide_eq_true (List.ext_getElem Hlo.out fun i h1 h2 => hR.out.2 i h1 h2 (by omega))
                    have HB3 := Lib.hid (HB.out.trans (hR.out.1.mono HB.out.size))
                    have HK3 := Lib.hid (HK.out.below hR.out.1)
                    have HL3 := Lib.hid (HL.out.below hR.out.1)
                    have HS3 := Lib.hid (HS.out.below hR.out.1)
                    have KS3 := Lib.hid (KS.out.below hR.out.1)
                    have Hr3 := Lib.hid (show decide (xs = ys) = r from Hr.out)
                    clear hR
                    go_wp2_with fail
                    clear m0 m1 m2 m3 m4 m5 m6 hz n0 n1 n2 n3 n4 n5 n6 hy
                    go_loopw [6] (fun iv wr => ∃ k : Nat, k ≤ xs.length ∧ iv = .int .i64 k ∧ Hid (Below w5.heap.size w5 wr ∧ ∀ i (hi : i < xs.length) (hi2 : i < ys.length), i < k → xs[i] = ys[i])) (fun iv _ => xs.length - (intOf iv).toNat)
                    case atStart => exact ⟨0, Nat.zero_le _, rfl, Lib.hid ⟨Below.refl _ _, fun i _ _ h => absurd h (by omega)⟩⟩
                    case round =>
                      obtain ⟨w7, hw7⟩ : ∃ x, x = wr := ⟨_, rfl⟩
                      subst hw7
                      obtain ⟨k, hk, rfl, hR⟩ := hrel
                      have hK := HK3.out.below hR.out.1
                      have m0 := hK.cell 0
                      have m1 := hK.cell 1
                      have m2 := hK.cell 2
                      have m3 := hK.cell 3
                      have m4 := hK.cell 4
                      have m5 := hK.cell 5
                      have m6 := hK.cell 6
                      have hz := hK.lt
                      simp only [List.getElem?_toArray, List.getElem?_cons_succ, List.getElem?_cons_zero] at m0 m1 m2 m3 m4 m5 m6
                      clear hK
                      have hK := HL3.out.below hR.out.1
                      have n0 := hK.cell 0
                      have n1 := hK.cell 1
                      have n2 := hK.cell 2
                      have n3 := hK.cell 3
                      have n4 := hK.cell 4
                      have n5 := hK.cell 5
                      have n6 := hK.cell 6
                      have hy := hK.lt
                      simp only [List.getElem?_toArray, List.getElem?_cons_succ, List.getElem?_cons_zero] at n0 n1 n2 n3 n4 n5 n6
                      clear hK
                      by_cases hlt : k < xs.length
                      · have hlt2 : k < ys.length := by omega
                        have hlti : (k : Int) < (xs.length : Int) := by omega
                        obtain ⟨g, off, rfl, hc, e0, e1, e2⟩ := (HS3.out.below hR.out.1).at_ hlt
                        obtain ⟨g', off', rfl, hd, d0, d1, d2_⟩ := (KS3.out.below hR.out.1).at_ hlt2
                        have Hn := Lib.hid (show ∀ (x y : _), xs[k] = x → ys[k] = y → (x = y → ∀ i (hi : i < xs.length) (hi2 : i < ys.length), i < k + 1 → xs[i] = ys[i]) ∧ (x ≠ y → r = false) from fun x y hx hy => ⟨fun e i hi hi2 hij => by
                            rcases Nat.lt_succ_iff_lt_or_eq.1 hij with h | rfl
                            · exact hR.out.2 i hi hi2 h
                            · rw [hx, hy, e], fun hne => by
                            rw [← Hr3.out]
                            refine decide_eq_false (fun e => hne ?_)
                            subst e
                            rw [← hx, ← hy]⟩)
                        have Hn2 := Lib.hid (Hn.out _ _ rfl rfl)
                        generalize xs[k]'hlt = x at *
                        generalize ys[k]'hlt2 = y at *
                        have HBr := Lib.hid hR.out.1.drew
                        clear Hn hR
                        obtain ⟨a0, a1, a2⟩ := x
                        obtain ⟨b0, b1, b2⟩ := y
                        simp only at e0 e1 e2 d0 d1 d2_
                        have qn := fun w => run_neq_seat w a0 a1 a2 b0 b1 b2
                        have qg := guard_seat
                        obtain ⟨z, hz⟩ : ∃ z, (a0 == b0 && (a1 == b1 && a2 == b2)) = z := ⟨_, rfl⟩
                        rw [hz] at qn
                        have Hz := Lib.hid (show z = true ↔ (⟨a0, a1, a2⟩ : St) = ⟨b0, b1, b2⟩ from by
                          rw [← hz]
                          simp [St.mk.injEq])
                        clear hz
                        cases z with
                        | true =>
                          have HN := Lib.hid (Hn2.out.1 (Hz.out.1 rfl))
                          clear Hn2
                          go_wp2_with fail
                          go_region
                          clear qn qg e0 e1 e2 d0 d1 d2_
                          go_wp2_with fail
                          go_roundw
                          case rel => exact ⟨k + 1, by omega, by go_num, Lib.hid ⟨HBr.out, HN.out⟩⟩
                          case measure => simp [intOf]; omega
                        | false =>
                          obtain rfl : r = false := Hn2.out.2 (fun e => by have := Hz.out.2 e; cases this)
                          have HBf := Lib.hid (HB3.out.trans (HBr.out.mono HB3.out.size))
                          clear Hn2
                          go_wp2_with fail
                          go_region
                          clear qn qg e0 e1 e2 d0 d1 d2_
                          go_wp2_with fail
                          go_ret
                          exact ⟨rfl, HBf.out⟩
                      · obtain rfl : k = xs.length := by omega
                        obtain rfl : r = true := by
                          rw [← Hr3.out]
                          refine decide_eq_true (List.ext_getElem Hls.out fun i h1 h2 => hR.out.2 i h1 h2 (by omega))
                        have HBf := Lib.hid (HB3.out.trans (hR.out.1.mono HB3.out.size))
                        clear hR
                        go_wp2_with fail
                        go_ret
                        exact ⟨rfl, HBf.out⟩
              · have dl2 : ((xs.length : Int) != (ys.length : Int)) = true := by simp; omega
                obtain rfl : r = false := by
                  rw [← Hr.out]
                  have : decide (xs = ys) = false := decide_eq_false (fun e => hls (by rw [e]))
                  rw [this]
                  simp
                clear hls hlo
                go_wp2_with fail
                go_ret
                exact ⟨rfl, HB.out⟩
            · have dl : ((xo.length : Int) != (yo.length : Int)) = true := by simp; omega
              obtain rfl : r = false := by
                have : ob = false := by rw [← Hob.out]; exact decide_eq_false (fun e => hlo (by rw [e]))
                subst this
                rw [← Hr.out]
                rfl
              clear hlo
              go_wp2_with fail
              go_ret
              exact ⟨rfl, HB.out⟩
        · obtain rfl : x3 = !y3 := by cases x3 <;> cases y3 <;> simp_all
          obtain rfl : r = false := by rw [← hr]; cases y3 <;> rfl
          clear hw
          go_enter Tryd.func17, Tryd.ntmps17
          have hK := HK.out
          have m0 := hK.cell 0
          have m1 := hK.cell 1
          have m2 := hK.cell 2
          have m3 := hK.cell 3
          have m4 := hK.cell 4
          have m5 := hK.cell 5
          have m6 := hK.cell 6
          have hz := hK.lt
          simp only [List.getElem?_toArray, List.getElem?_cons_succ, List.getElem?_cons_zero] at m0 m1 m2 m3 m4 m5 m6
          clear hK
          have hK := HL.out
          have n0 := hK.cell 0
          have n1 := hK.cell 1
          have n2 := hK.cell 2
          have n3 := hK.cell 3
          have n4 := hK.cell 4
          have n5 := hK.cell 5
          have n6 := hK.cell 6
          have hy := hK.lt
          simp only [List.getElem?_toArray, List.getElem?_cons_succ, List.getElem?_cons_zero] at n0 n1 n2 n3 n4 n5 n6
          clear hK
          go_wp2_with fail
          go_ret
          exact ⟨rfl, HB.out⟩
end Go.Proofs.YtciojggkcmdjiaaDoor
