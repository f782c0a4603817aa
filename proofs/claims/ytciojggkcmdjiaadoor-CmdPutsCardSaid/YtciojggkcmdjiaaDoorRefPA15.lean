/-
  copybookref15.PutAnswer: its contract. (Printed by wip/gen_refpa15.py.)
-/
import Derived.Test.YtciojggkcmdjiaaDoorRefMA15
namespace Go.Proofs.YtciojggkcmdjiaaDoor
open Go.RowKit
set_option linter.unusedSimpArgs false
set_option linter.unusedVariables false

set_option maxHeartbeats 12800000 in
set_option maxRecDepth 100000 in
theorem ref15_PutAnswer {w : World} {S : Nat → Prop} {a : An} {p q s : Option Addr} {c d e : Nat} (ht : ChsRd w S (.slice p a.text.length c) a.text) (ho : OpsRd w S (.slice q a.ops.length d) a.ops) (hs : StsRd w S (.slice s a.seats.length e) a.seats) (hw : WfA a) {r : Bool} (hr : mayAn a = r) :
    Calls Tryd.prog 13 #[.agg #[.int .i64 a.err, .int .u32 a.doc, .int .u64 a.rev, .bool a.whole, .slice p a.text.length c, .slice q a.ops.length d, .slice s a.seats.length e]] w fun x w' => PutR w w' (anBytes a) r x := by
  obtain ⟨bs, hbs⟩ : ∃ x, anBytes a = x := ⟨_, rfl⟩
  rw [hbs]
  have hb := (Below.refl w.heap.size w).alloc (Nat.le_refl _) (.cells #[.int .i64 a.err, .int .u32 a.doc, .int .u64 a.rev, .bool a.whole, .slice p a.text.length c, .slice q a.ops.length d, .slice s a.seats.length e] 41)
  have HK := Lib.hid (Blk.new w 41 #[.int .i64 a.err, .int .u32 a.doc, .int .u64 a.rev, .bool a.whole, .slice p a.text.length c, .slice q a.ops.length d, .slice s a.seats.length e])
  have HB := Lib.hid hb
  have HT := Lib.hid (ht.below hb)
  have HO := Lib.hid (ho.below hb)
  have HSt := Lib.hid (hs.below hb)
  have Hw := Lib.hid hw
  have Hr := Lib.hid hr
  have Hbs := Lib.hid hbs
  clear ht ho hs hw hr hbs hb
  go_enter Tryd.func13, Tryd.ntmps13
  go_wp2_with fail
  generalize w.alloc (.cells #[.int .i64 a.err, .int .u32 a.doc, .int .u64 a.rev, .bool a.whole, .slice p a.text.length c, .slice q a.ops.length d, .slice s a.seats.length e] 41) = W1 at *
  refine (ref15_MayAnswer HT.out HO.out HSt.out Hw.out).mono ?_
  rw [Hr.out]
  rintro _ w2 ⟨rfl, hb2⟩
  have HT2 := Lib.hid (HT.out.below hb2)
  have HO2 := Lib.hid (HO.out.below hb2)
  have HSt2 := Lib.hid (HSt.out.below hb2)
  have HK2 := Lib.hid (HK.out.below hb2)
  have HB2 := Lib.hid (HB.out.trans (hb2.mono HB.out.size))
  clear hb2 HT HO HSt HK HB
  cases r with
  | false =>
    go_wp2_with fail
    go_ret2
    exact ⟨none, 0, fun h => (by cases h), fun _ => rfl, HB2.out⟩
  | true =>
    obtain ⟨err, doc, rev, wh, text, ops, seats⟩ := a
    have hw := Hw.out
    obtain ⟨k1, k2, k3, k4, k5, k6⟩ := mayAn_ok Hr.out
    have u1 := hw.err
    have u2 := hw.doc
    have u3 := hw.rev
    have u4 := hw.text
    have u5 := hw.nops
    have Hwo := Lib.hid hw.ops
    have Hws := Lib.hid hw.seats
    have HT3 := HT2.out
    have HO3 := HO2.out
    have HSt3 := HSt2.out
    have HK3 := HK2.out
    simp only at k1 k2 k3 k4 k5 k6 u1 u2 u3 u4 u5 Hwo Hws HT3 HO3 HSt3 HK3 ⊢
    have HT4 := Lib.hid HT3
    have HO4 := Lib.hid HO3
    have HSt4 := Lib.hid HSt3
    have HK4 := Lib.hid HK3
    have Hk3 := Lib.hid k3
    have Hk4 := Lib.hid k4
    have Hk6 := Lib.hid k6
    clear HT2 HO2 HSt2 HK2 HT3 HO3 HSt3 HK3 k3 k4 k6 hw Hw Hr
    obtain ⟨en, rfl⟩ := Int.eq_ofNat_of_zero_le k1
    obtain ⟨dn, rfl⟩ := Int.eq_ofNat_of_zero_le u2.1
    obtain ⟨rn, rfl⟩ := Int.eq_ofNat_of_zero_le u3
    have c1 : IntKind.u64.wrap (en : Int) = en := IntWalk.u64_in _ (by omega)
    have c2 : IntKind.u64.wrap (dn : Int) = dn := IntWalk.u64_in _ (by omega)
    have c3 : IntKind.u64.wrap (text.length : Int) = text.length := IntWalk.u64_in _ (by omega)
    have c4 : IntKind.u64.wrap (ops.length : Int) = ops.length := IntWalk.u64_in _ (by omega)
    have c5 : IntKind.u64.wrap (seats.length : Int) = seats.length := IntWalk.u64_in _ (by omega)
    have Hn := Lib.hid (show en < 18446744073709551616 ∧ dn < 18446744073709551616 ∧ rn < 18446744073709551616 ∧ text.length < 18446744073709551616 ∧ ops.length < 18446744073709551616 ∧ seats.length < 18446744073709551616 ∧ wh.toNat < 18446744073709551616 by
      refine ⟨by omega, by omega, by omega, by omega, by omega, by omega, ?_⟩
      cases wh <;> decide)
    have Hlen := Lib.hid (show text.length ≤ 300 ∧ ops.length ≤ 20 ∧ seats.length ≤ 16 from ⟨u4, u5, k5⟩)
    clear k1 k2 k5 u1 u2 u3 u4 u5
    have HX0 := Lib.hid (OutB.start w2)
    have HC0 := Lib.hid (Below.refl w2.heap.size w2)
    have hK := HK4.out
    have m0 := hK.cell 0
    have m1 := hK.cell 1
    have m2 := hK.cell 2
    have m3 := hK.cell 3
    have m4 := hK.cell 4
    have m5 := hK.cell 5
    have m6 := hK.cell 6
    have hz := hK.lt
    simp only [List.getElem?_toArray, List.getElem?_cons_succ, List.getElem?_cons_zero] at m0 m1 m2 m3 m4 m5 m6
    clear hK
    go_wp2_with fail
    refine (HX0.out.put Hn.out.1 (by omega)).mono ?_
    rintro _ v1 ⟨y1, rfl, ho, hb⟩
    obtain ⟨b1, hb1⟩ : ∃ x, [] ++ Lib.uvarint en = x := ⟨_, rfl⟩
    rw [hb1] at ho
    have HX1 := Lib.hid (ho.more (show _ ≤ 10 by omega))
    have HC1 := Lib.hid (HC0.out.trans (hb.mono HC0.out.size))
    have Hb1 := Lib.hid hb1
    clear ho hb hb1 HX0 HC0 m0 m1 m2 m3 m4 m5 m6 hz
    have hK := (HK4.out.below HC1.out)
    have m0 := hK.cell 0
    have m1 := hK.cell 1
    have m2 := hK.cell 2
    have m3 := hK.cell 3
    have m4 := hK.cell 4
    have m5 := hK.cell 5
    have m6 := hK.cell 6
    have hz := hK.lt
    simp only [List.getElem?_toArray, List.getElem?_cons_succ, List.getElem?_cons_zero] at m0 m1 m2 m3 m4 m5 m6
    clear hK
    go_wp2_with fail
    refine (HX1.out.put Hn.out.2.1 (by omega)).mono ?_
    rintro _ v2 ⟨y2, rfl, ho, hb⟩
    obtain ⟨b2, hb2⟩ : ∃ x, b1 ++ Lib.uvarint dn = x := ⟨_, rfl⟩
    rw [hb2] at ho
    have HX2 := Lib.hid (ho.more (show _ ≤ 20 by omega))
    have HC2 := Lib.hid (HC1.out.trans (hb.mono HC1.out.size))
    have Hb2 := Lib.hid hb2
    clear ho hb hb2 HX1 HC1 m0 m1 m2 m3 m4 m5 m6 hz
    have hK := (HK4.out.below HC2.out)
    have m0 := hK.cell 0
    have m1 := hK.cell 1
    have m2 := hK.cell 2
    have m3 := hK.cell 3
    have m4 := hK.cell 4
    have m5 := hK.cell 5
    have m6 := hK.cell 6
    have hz := hK.lt
    simp only [List.getElem?_toArray, List.getElem?_cons_succ, List.getElem?_cons_zero] at m0 m1 m2 m3 m4 m5 m6
    clear hK
    go_wp2_with fail
    refine (HX2.out.put Hn.out.2.2.1 (by omega)).mono ?_
    rintro _ v3 ⟨y3, rfl, ho, hb⟩
    obtain ⟨b3, hb3⟩ : ∃ x, b2 ++ Lib.uvarint rn = x := ⟨_, rfl⟩
    rw [hb3] at ho
    have HX3 := Lib.hid (ho.more (show _ ≤ 30 by omega))
    have HC3 := Lib.hid (HC2.out.trans (hb.mono HC2.out.size))
    have Hb3 := Lib.hid hb3
    clear ho hb hb3 HX2 HC2 m0 m1 m2 m3 m4 m5 m6 hz
    have hK := (HK4.out.below HC3.out)
    have m0 := hK.cell 0
    have m1 := hK.cell 1
    have m2 := hK.cell 2
    have m3 := hK.cell 3
    have m4 := hK.cell 4
    have m5 := hK.cell 5
    have m6 := hK.cell 6
    have hz := hK.lt
    simp only [List.getElem?_toArray, List.getElem?_cons_succ, List.getElem?_cons_zero] at m0 m1 m2 m3 m4 m5 m6
    clear hK
    go_wp2_with fail
    refine ref_Bool.mono ?_
    rintro _ _ ⟨rfl, rfl⟩
    go_wp2_with fail
    refine (HX3.out.put (n := wh.toNat) Hn.out.2.2.2.2.2.2 (by omega)).mono ?_
    rintro _ v4 ⟨y4, rfl, ho, hb⟩
    obtain ⟨b4, hb4⟩ : ∃ x, b3 ++ Lib.uvarint wh.toNat = x := ⟨_, rfl⟩
    rw [hb4] at ho
    have HX4 := Lib.hid (ho.more (show _ ≤ 40 by omega))
    have HC4 := Lib.hid (HC3.out.trans (hb.mono HC3.out.size))
    have Hb4 := Lib.hid hb4
    clear ho hb hb4 HX3 HC3 m0 m1 m2 m3 m4 m5 m6 hz
    have hK := (HK4.out.below HC4.out)
    have m0 := hK.cell 0
    have m1 := hK.cell 1
    have m2 := hK.cell 2
    have m3 := hK.cell 3
    have m4 := hK.cell 4
    have m5 := hK.cell 5
    have m6 := hK.cell 6
    have hz := hK.lt
    simp only [List.getElem?_toArray, List.getElem?_cons_succ, List.getElem?_cons_zero] at m0 m1 m2 m3 m4 m5 m6
    clear hK
    go_wp2_with fail
    refine (HX4.out.put Hn.out.2.2.2.1 (by omega)).mono ?_
    rintro _ v5 ⟨y5, rfl, ho, hb⟩
    obtain ⟨b5, hb5⟩ : ∃ x, b4 ++ Lib.uvarint text.length = x := ⟨_, rfl⟩
    rw [hb5] at ho
    have HX5 := Lib.hid (ho.more (show _ ≤ 50 by omega))
    have HC5 := Lib.hid (HC4.out.trans (hb.mono HC4.out.size))
    have Hb5 := Lib.hid hb5
    clear ho hb hb5 HX4 HC4 m0 m1 m2 m3 m4 m5 m6 hz
    have hK := (HK4.out.below HC5.out)
    have m0 := hK.cell 0
    have m1 := hK.cell 1
    have m2 := hK.cell 2
    have m3 := hK.cell 3
    have m4 := hK.cell 4
    have m5 := hK.cell 5
    have m6 := hK.cell 6
    have hz := hK.lt
    simp only [List.getElem?_toArray, List.getElem?_cons_succ, List.getElem?_cons_zero] at m0 m1 m2 m3 m4 m5 m6
    clear hK
    go_wp2_with fail
    clear m0 m1 m2 m3 m4 m5 m6 hz
    go_loopw [4, 5] (fun bv iv wr => ∃ k : Nat, k ≤ text.length ∧ iv = .int .i64 k ∧ Hid (OutB w2 wr bv (b5 ++ (text.take k).flatMap chBytes) (50 + 10 * k) ∧ Below w2.heap.size w2 wr)) (fun _ iv _ => text.length - (intOf iv).toNat)
    case atStart => exact ⟨0, Nat.zero_le _, rfl, Lib.hid ⟨by simpa using HX5.out, HC5.out⟩⟩
    case round =>
      obtain ⟨w59, hw59⟩ : ∃ x, x = wr := ⟨_, rfl⟩
      subst hw59
      rename_i bv5 _
      obtain ⟨k, hk, rfl, hR⟩ := hrel
      have hll := Hlen.out
      have hK := (HK4.out.below hR.out.2)
      have m0 := hK.cell 0
      have m1 := hK.cell 1
      have m2 := hK.cell 2
      have m3 := hK.cell 3
      have m4 := hK.cell 4
      have m5 := hK.cell 5
      have m6 := hK.cell 6
      have hz := hK.lt
      simp only [List.getElem?_toArray, List.getElem?_cons_succ, List.getElem?_cons_zero] at m0 m1 m2 m3 m4 m5 m6
      clear hK
      by_cases hlt : k < text.length
      · obtain ⟨g, off, rfl, hc, e0⟩ := (HT4.out.below hR.out.2).at_ hlt
        have hlti : (k : Int) < (text.length : Int) := by omega
        have Htk := Lib.hid (show text.take (k + 1) = text.take k ++ [text[k]] from List.take_succ_eq_append_getElem hlt)
        have Hin := Lib.hid (show text[k] ∈ text from List.getElem_mem hlt)
        generalize text[k]'hlt = u at *
        have HX := Lib.hid hR.out.1
        have HC := Lib.hid hR.out.2
        clear hR
        have hc := mayC_iff (Hk3.out u Hin.out)
        obtain ⟨n0, rfl⟩ := Int.eq_ofNat_of_zero_le (show 0 ≤ u by omega)
        have cc : IntKind.u64.wrap (n0 : Int) = n0 := IntWalk.u64_in _ (by omega)
        have hgz := lt_of_cell e0
        go_wp2_with fail
        refine (HX.out.put (n := n0) (by omega) (by omega)).mono ?_
        rintro _ u1 ⟨y, rfl, ho, hb⟩
        have HXn := Lib.hid (show OutB w2 u1 y (b5 ++ (text.take k).flatMap chBytes ++ chBytes n0) _ from ho)
        have HCn := Lib.hid (HC.out.trans (hb.mono HC.out.size))
        clear ho hb HX HC e0 m0 m1 m2 m3 m4 m5 m6 hz
        have hK := (HK4.out.below HCn.out)
        have m0 := hK.cell 0
        have m1 := hK.cell 1
        have m2 := hK.cell 2
        have m3 := hK.cell 3
        have m4 := hK.cell 4
        have m5 := hK.cell 5
        have m6 := hK.cell 6
        have hz := hK.lt
        simp only [List.getElem?_toArray, List.getElem?_cons_succ, List.getElem?_cons_zero] at m0 m1 m2 m3 m4 m5 m6
        clear hK
        have HXf := Lib.hid (show OutB w2 _ _ (b5 ++ (text.take (k + 1)).flatMap chBytes) (50 + 10 * (k + 1)) from by rw [Htk.out, List.flatMap_append, List.flatMap_cons, List.flatMap_nil, List.append_nil, ← List.append_assoc]; exact HXn.out.more (by omega))
        clear HXn
        go_wp2_with fail
        go_roundw
        case rel => exact ⟨k + 1, by omega, by go_num, Lib.hid ⟨HXf.out, HCn.out⟩⟩
        case measure => simp [intOf]; omega
      · obtain rfl : k = text.length := by omega
        have hx := hR.out.1
        rw [List.take_length] at hx
        obtain ⟨b6, hb6⟩ : ∃ x, b5 ++ text.flatMap chBytes = x := ⟨_, rfl⟩
        rw [hb6] at hx
        have HX6 := Lib.hid (hx.more (show _ ≤ 3050 by omega))
        have HC6 := Lib.hid hR.out.2
        have Hb6 := Lib.hid hb6
        clear hx hb6 hR HX5 HC5
        go_wp2_with fail
        refine (HX6.out.put Hn.out.2.2.2.2.1 (by omega)).mono ?_
        rintro _ v7 ⟨y7, rfl, ho, hb⟩
        obtain ⟨b7, hb7⟩ : ∃ x, b6 ++ Lib.uvarint ops.length = x := ⟨_, rfl⟩
        rw [hb7] at ho
        have HX7 := Lib.hid (ho.more (show _ ≤ 3060 by omega))
        have HC7 := Lib.hid (HC6.out.trans (hb.mono HC6.out.size))
        have Hb7 := Lib.hid hb7
        clear ho hb hb7 HX6 HC6 m0 m1 m2 m3 m4 m5 m6 hz
        have hK := (HK4.out.below HC7.out)
        have m0 := hK.cell 0
        have m1 := hK.cell 1
        have m2 := hK.cell 2
        have m3 := hK.cell 3
        have m4 := hK.cell 4
        have m5 := hK.cell 5
        have m6 := hK.cell 6
        have hz := hK.lt
        simp only [List.getElem?_toArray, List.getElem?_cons_succ, List.getElem?_cons_zero] at m0 m1 m2 m3 m4 m5 m6
        clear hK
        go_wp2_with fail
        clear m0 m1 m2 m3 m4 m5 m6 hz
        go_loopw [4, 6] (fun bv iv wr => ∃ k : Nat, k ≤ ops.length ∧ iv = .int .i64 k ∧ Hid (OutB w2 wr bv (b7 ++ (ops.take k).flatMap oprBytes) (3060 + 20000 * k) ∧ Below w2.heap.size w2 wr)) (fun _ iv _ => ops.length - (intOf iv).toNat)
        case atStart => exact ⟨0, Nat.zero_le _, rfl, Lib.hid ⟨by simpa using HX7.out, HC7.out⟩⟩
        case round =>
          obtain ⟨w79, hw79⟩ : ∃ x, x = wr := ⟨_, rfl⟩
          subst hw79
          rename_i bv7 _
          obtain ⟨k, hk, rfl, hR⟩ := hrel
          have hll := Hlen.out
          have hK := (HK4.out.below hR.out.2)
          have m0 := hK.cell 0
          have m1 := hK.cell 1
          have m2 := hK.cell 2
          have m3 := hK.cell 3
          have m4 := hK.cell 4
          have m5 := hK.cell 5
          have m6 := hK.cell 6
          have hz := hK.lt
          simp only [List.getElem?_toArray, List.getElem?_cons_succ, List.getElem?_cons_zero] at m0 m1 m2 m3 m4 m5 m6
          clear hK
          by_cases hlt : k < ops.length
          · obtain ⟨g, off, qq, dd, rfl, hc, e0, e1, e2, e3, hu⟩ := (HO4.out.below hR.out.2).at_ hlt
            have hlti : (k : Int) < (ops.length : Int) := by omega
            have Htk := Lib.hid (show ops.take (k + 1) = ops.take k ++ [ops[k]] from List.take_succ_eq_append_getElem hlt)
            have Hin := Lib.hid (show ops[k] ∈ ops from List.getElem_mem hlt)
            generalize ops[k]'hlt = u at *
            have HX := Lib.hid hR.out.1
            have HC := Lib.hid hR.out.2
            clear hR
            have HU := Lib.hid hu
            have Hwu := Lib.hid (Hwo.out u Hin.out)
            have Hru := Lib.hid (Hk4.out u Hin.out)
            have hgz := lt_of_cell e0
            clear hu
            go_wp2_with fail
            refine (HX.out.op HU.out Hwu.out Hru.out (by omega)).mono ?_
            rintro _ u1 ⟨y, rfl, ho, hb⟩
            have HXn := Lib.hid ho
            have HCn := Lib.hid (HC.out.trans (hb.mono HC.out.size))
            clear ho hb HX HC e0 e1 e2 e3 m0 m1 m2 m3 m4 m5 m6 hz
            have hK := (HK4.out.below HCn.out)
            have m0 := hK.cell 0
            have m1 := hK.cell 1
            have m2 := hK.cell 2
            have m3 := hK.cell 3
            have m4 := hK.cell 4
            have m5 := hK.cell 5
            have m6 := hK.cell 6
            have hz := hK.lt
            simp only [List.getElem?_toArray, List.getElem?_cons_succ, List.getElem?_cons_zero] at m0 m1 m2 m3 m4 m5 m6
            clear hK
            have HXf := Lib.hid (show OutB w2 _ _ (b7 ++ (ops.take (k + 1)).flatMap oprBytes) (3060 + 20000 * (k + 1)) from by rw [Htk.out, List.flatMap_append, List.flatMap_cons, List.flatMap_nil, List.append_nil, ← List.append_assoc]; exact HXn.out.more (by omega))
            clear HXn
            go_wp2_with fail
            go_roundw
            case rel => exact ⟨k + 1, by omega, by go_num, Lib.hid ⟨HXf.out, HCn.out⟩⟩
            case measure => simp [intOf]; omega
          · obtain rfl : k = ops.length := by omega
            have hx := hR.out.1
            rw [List.take_length] at hx
            obtain ⟨b8, hb8⟩ : ∃ x, b7 ++ ops.flatMap oprBytes = x := ⟨_, rfl⟩
            rw [hb8] at hx
            have HX8 := Lib.hid (hx.more (show _ ≤ 403060 by omega))
            have HC8 := Lib.hid hR.out.2
            have Hb8 := Lib.hid hb8
            clear hx hb8 hR HX7 HC7
            go_wp2_with fail
            refine (HX8.out.put Hn.out.2.2.2.2.2.1 (by omega)).mono ?_
            rintro _ v9 ⟨y9, rfl, ho, hb⟩
            obtain ⟨b9, hb9⟩ : ∃ x, b8 ++ Lib.uvarint seats.length = x := ⟨_, rfl⟩
            rw [hb9] at ho
            have HX9 := Lib.hid (ho.more (show _ ≤ 403070 by omega))
            have HC9 := Lib.hid (HC8.out.trans (hb.mono HC8.out.size))
            have Hb9 := Lib.hid hb9
            clear ho hb hb9 HX8 HC8 m0 m1 m2 m3 m4 m5 m6 hz
            have hK := (HK4.out.below HC9.out)
            have m0 := hK.cell 0
            have m1 := hK.cell 1
            have m2 := hK.cell 2
            have m3 := hK.cell 3
            have m4 := hK.cell 4
            have m5 := hK.cell 5
            have m6 := hK.cell 6
            have hz := hK.lt
            simp only [List.getElem?_toArray, List.getElem?_cons_succ, List.getElem?_cons_zero] at m0 m1 m2 m3 m4 m5 m6
            clear hK
            go_wp2_with fail
            clear m0 m1 m2 m3 m4 m5 m6 hz
            go_loopw [4, 7] (fun bv iv wr => ∃ k : Nat, k ≤ seats.length ∧ iv = .int .i64 k ∧ Hid (OutB w2 wr bv (b9 ++ (seats.take k).flatMap stBytes) (403070 + 30 * k) ∧ Below w2.heap.size w2 wr)) (fun _ iv _ => seats.length - (intOf iv).toNat)
            case atStart => exact ⟨0, Nat.zero_le _, rfl, Lib.hid ⟨by simpa using HX9.out, HC9.out⟩⟩
            case round =>
              obtain ⟨w99, hw99⟩ : ∃ x, x = wr := ⟨_, rfl⟩
              subst hw99
              rename_i bv9 _
              obtain ⟨k, hk, rfl, hR⟩ := hrel
              have hll := Hlen.out
              have hK := (HK4.out.below hR.out.2)
              have m0 := hK.cell 0
              have m1 := hK.cell 1
              have m2 := hK.cell 2
              have m3 := hK.cell 3
              have m4 := hK.cell 4
              have m5 := hK.cell 5
              have m6 := hK.cell 6
              have hz := hK.lt
              simp only [List.getElem?_toArray, List.getElem?_cons_succ, List.getElem?_cons_zero] at m0 m1 m2 m3 m4 m5 m6
              clear hK
              by_cases hlt : k < seats.length
              · obtain ⟨g, off, rfl, hc, e0, e1, e2⟩ := (HSt4.out.below hR.out.2).at_ hlt
                have hlti : (k : Int) < (seats.length : Int) := by omega
                have Htk := Lib.hid (show seats.take (k + 1) = seats.take k ++ [seats[k]] from List.take_succ_eq_append_getElem hlt)
                have Hin := Lib.hid (show seats[k] ∈ seats from List.getElem_mem hlt)
                generalize seats[k]'hlt = u at *
                have HX := Lib.hid hR.out.1
                have HC := Lib.hid hR.out.2
                clear hR
                have hc := Hk6.out u Hin.out
                have hd := Hws.out u Hin.out
                unfold farB at hc
                simp only [Bool.and_eq_true, decide_eq_true_eq] at hc
                have hd1 := hd.cl
                have hd2 := hd.til
                obtain ⟨ucl, upos, util⟩ := u
                simp only at hc hd1 hd2 e0 e1 e2
                obtain ⟨n0, rfl⟩ := Int.eq_ofNat_of_zero_le hd1.1
                obtain ⟨n1, rfl⟩ := Int.eq_ofNat_of_zero_le hc.1
                obtain ⟨n2, rfl⟩ := Int.eq_ofNat_of_zero_le hd2.1
                have cc0 : IntKind.u64.wrap (n0 : Int) = n0 := IntWalk.u64_in _ (by omega)
                have cc1 : IntKind.u64.wrap (n1 : Int) = n1 := IntWalk.u64_in _ (by omega)
                have HN := Lib.hid (show n0 < 18446744073709551616 ∧ n1 < 18446744073709551616 ∧ n2 < 18446744073709551616 by omega)
                have hgz := lt_of_cell e0
                have He := Lib.hid (And.intro e1 e2)
                have Hgz := Lib.hid hgz
                clear hc hd hd1 hd2 e1 e2
                go_wp2_with fail
                refine (HX.out.put HN.out.1 (by omega)).mono ?_
                rintro _ u1 ⟨y1, rfl, ho, hb⟩
                have HX1 := Lib.hid ho
                have e1 := (hb.cell (p := ⟨g, off + k * 3 + 1, none⟩) Hgz.out).trans He.out.1
                have He2 := Lib.hid ((hb.cell (p := ⟨g, off + k * 3 + 2, none⟩) Hgz.out).trans He.out.2)
                have HC1 := Lib.hid (HC.out.trans (hb.mono HC.out.size))
                have hgz1 := lt_of_cell e1
                clear ho hb HX HC e0 hgz m0 m1 m2 m3 m4 m5 m6 hz
                have hK := (HK4.out.below HC1.out)
                have m0 := hK.cell 0
                have m1 := hK.cell 1
                have m2 := hK.cell 2
                have m3 := hK.cell 3
                have m4 := hK.cell 4
                have m5 := hK.cell 5
                have m6 := hK.cell 6
                have hz := hK.lt
                simp only [List.getElem?_toArray, List.getElem?_cons_succ, List.getElem?_cons_zero] at m0 m1 m2 m3 m4 m5 m6
                clear hK
                go_wp2_with fail
                refine (HX1.out.put HN.out.2.1 (by omega)).mono ?_
                rintro _ u2 ⟨y2, rfl, ho, hb⟩
                have HX2 := Lib.hid ho
                have e2 := (hb.cell (p := ⟨g, off + k * 3 + 2, none⟩) hgz1).trans He2.out
                have HC2 := Lib.hid (HC1.out.trans (hb.mono HC1.out.size))
                have hgz2 := lt_of_cell e2
                clear ho hb HX1 HC1 e1 hgz1 m0 m1 m2 m3 m4 m5 m6 hz
                have hK := (HK4.out.below HC2.out)
                have m0 := hK.cell 0
                have m1 := hK.cell 1
                have m2 := hK.cell 2
                have m3 := hK.cell 3
                have m4 := hK.cell 4
                have m5 := hK.cell 5
                have m6 := hK.cell 6
                have hz := hK.lt
                simp only [List.getElem?_toArray, List.getElem?_cons_succ, List.getElem?_cons_zero] at m0 m1 m2 m3 m4 m5 m6
                clear hK
                go_wp2_with fail
                refine (HX2.out.put HN.out.2.2 (by omega)).mono ?_
                rintro _ u3 ⟨y3, rfl, ho, hb⟩
                have HXn := Lib.hid (show OutB w2 u3 y3 (b9 ++ (seats.take k).flatMap stBytes ++ stBytes ⟨n0, n1, n2⟩) _ from by unfold stBytes; simp only [Int.toNat_natCast, ← List.append_assoc]; exact ho)
                have HCn := Lib.hid (HC2.out.trans (hb.mono HC2.out.size))
                clear ho hb HX2 HC2 e2 hgz2 He He2 m0 m1 m2 m3 m4 m5 m6 hz
                have hK := (HK4.out.below HCn.out)
                have m0 := hK.cell 0
                have m1 := hK.cell 1
                have m2 := hK.cell 2
                have m3 := hK.cell 3
                have m4 := hK.cell 4
                have m5 := hK.cell 5
                have m6 := hK.cell 6
                have hz := hK.lt
                simp only [List.getElem?_toArray, List.getElem?_cons_succ, List.getElem?_cons_zero] at m0 m1 m2 m3 m4 m5 m6
                clear hK
                have HXf := Lib.hid (show OutB w2 _ _ (b9 ++ (seats.take (k + 1)).flatMap stBytes) (403070 + 30 * (k + 1)) from by rw [Htk.out, List.flatMap_append, List.flatMap_cons, List.flatMap_nil, List.append_nil, ← List.append_assoc]; exact HXn.out.more (by omega))
                clear HXn
                go_wp2_with fail
                go_roundw
                case rel => exact ⟨k + 1, by omega, by go_num, Lib.hid ⟨HXf.out, HCn.out⟩⟩
                case measure => simp [intOf]; omega
              · obtain rfl : k = seats.length := by omega
                have hx := hR.out.1
                rw [List.take_length] at hx
                obtain ⟨b10, hb10⟩ : ∃ x, b9 ++ seats.flatMap stBytes = x := ⟨_, rfl⟩
                rw [hb10] at hx
                have HX10 := Lib.hid (hx.more (show _ ≤ 403600 by omega))
                have HC10 := Lib.hid hR.out.2
                have Hb10 := Lib.hid hb10
                clear hx hb10 hR HX9 HC9
                go_wp2_with fail
                have hfin := HX10.out.own
                have e : b10 = bs := by
                  rw [← Hb10.out, ← Hb9.out, ← Hb8.out, ← Hb7.out, ← Hb6.out, ← Hb5.out, ← Hb4.out, ← Hb3.out, ← Hb2.out, ← Hb1.out, ← Hbs.out]
                  rfl
                subst e
                obtain ⟨q', d', rfl⟩ := own_cmd_slice hfin
                have HOw := Lib.hid (CmdOwn.base hfin HB2.out.size)
                have HBf := Lib.hid (HB2.out.trans (HC10.out.mono HB2.out.size))
                clear hfin
                go_ret2
                exact ⟨q', d', fun _ => ⟨rfl, HOw.out⟩, fun h => (by cases h), HBf.out⟩
end Go.Proofs.YtciojggkcmdjiaaDoor
