/-
  cmd.PutNotice, copybookref15.PutNotice: their contracts. (Printed by wip/gen_putn15.py.)
-/
import Derived.Test.YtciojggkcmdjiaaDoorRefPA15
namespace Go.Proofs.YtciojggkcmdjiaaDoor
open Go.RowKit
set_option linter.unusedSimpArgs false
set_option linter.unusedVariables false

def noBytes (cl doc rev : Int) (o : Opr) : List UInt8 := Lib.uvarint cl.toNat ++ Lib.uvarint doc.toNat ++ Lib.uvarint rev.toNat ++ oprBytes o
def mayNo (rev : Int) (o : Opr) : Bool := decide (rev ≤ 1099511627776) && rowB o.us
structure WfN (cl doc rev : Int) (o : Opr) : Prop where
  cl : 0 ≤ cl ∧ cl ≤ 4294967295
  doc : 0 ≤ doc ∧ doc ≤ 4294967295
  rev : 0 ≤ rev
  op : WfO o
set_option maxHeartbeats 6400000 in
set_option maxRecDepth 100000 in
theorem cmd_PutNotice {w : World} {S : Nat → Prop} {cl doc rev : Int} {o : Opr} {p : Option Addr} {k : Nat} (h : UtsRd w S (.slice p o.us.length k) o.us) (hS : ∀ j, S j → j < w.heap.size) (hw : WfN cl doc rev o) {r : Bool} (hr : mayNo rev o = r) :
    Calls Tryd.prog 14 #[.agg #[.int .u32 cl, .int .u32 doc, .int .u64 rev, .int .u32 o.cl, .int .u64 o.rq, .slice p o.us.length k, .bool o.un]] w fun x w' => PutR w w' (noBytes cl doc rev o) r x := by
  obtain ⟨bs, hbs⟩ : ∃ x, noBytes cl doc rev o = x := ⟨_, rfl⟩
  rw [hbs]
  have hba := (Below.refl w.heap.size w).alloc (Nat.le_refl _) (.cells #[.int .u32 cl, .int .u32 doc, .int .u64 rev, .int .u32 o.cl, .int .u64 o.rq, .slice p o.us.length k, .bool o.un] 48)
  have HK := Lib.hid (Blk.new w 48 #[.int .u32 cl, .int .u32 doc, .int .u64 rev, .int .u32 o.cl, .int .u64 o.rq, .slice p o.us.length k, .bool o.un])
  have HB := Lib.hid hba
  have H := Lib.hid (h.below hba)
  have Hbs := Lib.hid hbs
  have Hw := Lib.hid hw
  have hfew := hw.op.few
  have hul : o.us.length ≤ 1000000 := by omega
  have HSS := Lib.hid hS
  unfold mayNo at hr
  clear h hw hbs hba hS
  by_cases k1 : rev ≤ 1099511627776
  · have d1 : decide (1099511627776 < rev) = false := by simp; omega
    rw [decide_eq_true k1, Bool.true_and] at hr
    have Hr := Lib.hid hr
    have Hk1 := Lib.hid k1
    clear hr k1
    go_enter Tryd.func14, Tryd.ntmps14
    have hK := HK.out
    have m0 := hK.cell 0
    have m1 := hK.cell 1
    have m2 := hK.cell 2
    have m3 := hK.cell 3
    have m4 := hK.cell 4
    have m5 := hK.cell 5
    have m6 := hK.cell 6
    have hz := hK.lt
    simp only [List.getElem?_toArray, List.getElem?_cons_succ, List.getElem?_cons_zero] at m0 m1 m2 m3 m4 m5 m6
    clear hK
    go_wp2_with fail
    generalize w.alloc (.cells #[.int .u32 cl, .int .u32 doc, .int .u64 rev, .int .u32 o.cl, .int .u64 o.rq, .slice p o.us.length k, .bool o.un] 48) = W1 at *
    refine (cmd_row H.out hul).mono ?_
    rw [Hr.out]
    rintro _ w2 ⟨rfl, hb2⟩
    have H2 := Lib.hid (H.out.below hb2)
    have HK2 := Lib.hid (HK.out.below hb2)
    have HB2 := Lib.hid (HB.out.trans (hb2.mono HB.out.size))
    clear hb2 H HK HB m0 m1 m2 m3 m4 m5 m6 hz
    have hK := HK2.out
    have m0 := hK.cell 0
    have m1 := hK.cell 1
    have m2 := hK.cell 2
    have m3 := hK.cell 3
    have m4 := hK.cell 4
    have m5 := hK.cell 5
    have m6 := hK.cell 6
    have hz := hK.lt
    simp only [List.getElem?_toArray, List.getElem?_cons_succ, List.getElem?_cons_zero] at m0 m1 m2 m3 m4 m5 m6
    clear hK
    cases r with
    | false =>
      go_wp2_with fail
      go_ret2
      exact ⟨none, 0, fun h => (by cases h), fun _ => rfl, HB2.out⟩
    | true =>
      have hwc := Hw.out.cl
      have hwd := Hw.out.doc
      have hwr := Hw.out.rev
      have Hwo := Lib.hid Hw.out.op
      clear Hw
      obtain ⟨cn, rfl⟩ := Int.eq_ofNat_of_zero_le hwc.1
      obtain ⟨dn, rfl⟩ := Int.eq_ofNat_of_zero_le hwd.1
      obtain ⟨rn, rfl⟩ := Int.eq_ofNat_of_zero_le hwr
      have c1 : IntKind.u64.wrap (cn : Int) = cn := IntWalk.u64_in _ (by omega)
      have c2 : IntKind.u64.wrap (dn : Int) = dn := IntWalk.u64_in _ (by omega)
      have Hn := Lib.hid (show cn < 18446744073709551616 ∧ dn < 18446744073709551616 ∧ rn < 18446744073709551616 by have := Hk1.out; omega)
      clear hwc hwd hwr
      have Hub := Lib.hid (show (Lib.uvarint cn).length ≤ 10 ∧ (Lib.uvarint dn).length ≤ 10 ∧ (Lib.uvarint rn).length ≤ 10 from ⟨Lib.uvarint_length64 Hn.out.1, Lib.uvarint_length64 Hn.out.2.1, Lib.uvarint_length64 Hn.out.2.2⟩)
      have hba := (Below.refl w2.heap.size w2).alloc (Nat.le_refl _) (.cells #[.slice none 0 0] 59)
      have HK4 := Lib.hid (HK2.out.below hba)
      have H4 := Lib.hid (H2.out.below hba)
      have HB3 := Lib.hid (HB2.out.trans (hba.mono HB2.out.size))
      have HW0 := Lib.hid (WrAny.new w2)
      have hzz := HK2.out.lt
      have Hne := Lib.hid (show w.heap.size ≠ w2.heap.size by omega)
      have Haw := Lib.hid (show w.heap.size ≤ w2.heap.size by omega)
      have HSa := Lib.hid (show ∀ k, S k → ¬ (k = w2.heap.size) from fun k hk e => by have := HSS.out k hk; omega)
      clear hba HK2 H2 HB2 hzz
      go_wp2_with fail
      generalize w2.alloc (.cells #[.slice none 0 0] 59) = W3 at *
      generalize w2.heap.size = a at *
      have HE0 := Lib.hid (Ext.refl (· = a) W3)
      have Hl0 := Lib.hid (show ([] : List UInt8).length ≤ 0 from Nat.le_refl _)
      refine (wr_Any HW0.out Hn.out.1 (by have := Hl0.out; simp)).mono ?_
      rintro _ v1 ⟨rfl, hw, hE⟩
      obtain ⟨b1, hb1⟩ : ∃ x, [] ++ Lib.uvarint cn = x := ⟨_, rfl⟩
      rw [hb1] at hw
      have HW1 := Lib.hid hw
      have HE1 := Lib.hid (HE0.out.trans hE)
      have Hl1 := Lib.hid (show b1.length ≤ 10 from by have h1 := Hub.out; have h0 := Hl0.out; rw [← hb1]; simp only [List.length_append]; omega)
      have Hb1 := Lib.hid hb1
      clear hw hE hb1 HW0 HE0 m0 m1 m2 m3 m4 m5 m6 hz
      have hK := (HK4.out.ext HE1.out Hne.out)
      have m0 := hK.cell 0
      have m1 := hK.cell 1
      have m2 := hK.cell 2
      have m3 := hK.cell 3
      have m4 := hK.cell 4
      have m5 := hK.cell 5
      have m6 := hK.cell 6
      have hz := hK.lt
      simp only [List.getElem?_toArray, List.getElem?_cons_succ, List.getElem?_cons_zero] at m0 m1 m2 m3 m4 m5 m6
      clear hK
      go_wp2_with fail
      refine (wr_Any HW1.out Hn.out.2.1 (by have := Hl1.out; omega)).mono ?_
      rintro _ v2 ⟨rfl, hw, hE⟩
      obtain ⟨b2, hb2⟩ : ∃ x, b1 ++ Lib.uvarint dn = x := ⟨_, rfl⟩
      rw [hb2] at hw
      have HW2 := Lib.hid hw
      have HE2 := Lib.hid (HE1.out.trans hE)
      have Hl2 := Lib.hid (show b2.length ≤ 20 from by have h1 := Hub.out; have h0 := Hl1.out; rw [← hb2]; simp only [List.length_append]; omega)
      have Hb2 := Lib.hid hb2
      clear hw hE hb2 HW1 HE1 m0 m1 m2 m3 m4 m5 m6 hz
      have hK := (HK4.out.ext HE2.out Hne.out)
      have m0 := hK.cell 0
      have m1 := hK.cell 1
      have m2 := hK.cell 2
      have m3 := hK.cell 3
      have m4 := hK.cell 4
      have m5 := hK.cell 5
      have m6 := hK.cell 6
      have hz := hK.lt
      simp only [List.getElem?_toArray, List.getElem?_cons_succ, List.getElem?_cons_zero] at m0 m1 m2 m3 m4 m5 m6
      clear hK
      go_wp2_with fail
      refine (wr_Any HW2.out Hn.out.2.2 (by have := Hl2.out; omega)).mono ?_
      rintro _ v3 ⟨rfl, hw, hE⟩
      obtain ⟨b3, hb3⟩ : ∃ x, b2 ++ Lib.uvarint rn = x := ⟨_, rfl⟩
      rw [hb3] at hw
      have HW3 := Lib.hid hw
      have HE3 := Lib.hid (HE2.out.trans hE)
      have Hl3 := Lib.hid (show b3.length ≤ 30 from by have h1 := Hub.out; have h0 := Hl2.out; rw [← hb3]; simp only [List.length_append]; omega)
      have Hb3 := Lib.hid hb3
      clear hw hE hb3 HW2 HE2 m0 m1 m2 m3 m4 m5 m6 hz
      have hK := (HK4.out.ext HE3.out Hne.out)
      have m0 := hK.cell 0
      have m1 := hK.cell 1
      have m2 := hK.cell 2
      have m3 := hK.cell 3
      have m4 := hK.cell 4
      have m5 := hK.cell 5
      have m6 := hK.cell 6
      have hz := hK.lt
      simp only [List.getElem?_toArray, List.getElem?_cons_succ, List.getElem?_cons_zero] at m0 m1 m2 m3 m4 m5 m6
      clear hK
      go_wp2_with fail
      have HU := Lib.hid (H4.out.ext HE3.out HSa.out)
      refine (wr_Op HW3.out HU.out (fun h => HSa.out _ h rfl) Hwo.out Hr.out (by have := Hl3.out; omega)).mono ?_
      rintro _ v4 ⟨rfl, hw, hE⟩
      have e : b3 ++ oprBytes o = bs := by
        rw [← Hb3.out, ← Hb2.out, ← Hb1.out, ← Hbs.out]
        rfl
      have hl5 := oprBytes_len Hwo.out Hr.out
      have Hl5 := Lib.hid (show bs.length ≤ 140737488355328 from by have := Hl3.out; rw [← e, List.length_append]; omega)
      rw [e] at hw
      have HW5 := Lib.hid hw
      have HE5 := Lib.hid (HE3.out.trans hE)
      clear hw hE e hl5 HW3 HE3 m0 m1 m2 m3 m4 m5 m6 hz
      go_wp2_with fail
      refine (wr_OutAny HW5.out Hl5.out).mono ?_
      rintro _ w11 ⟨q', d', rfl, ho, hb⟩
      have HBx := Lib.hid (Ext.from HB3.out HE5.out (fun j hj => by have := Haw.out; omega))
      have HOw := Lib.hid (ho.base HBx.out.size)
      have HB11 := Lib.hid (HBx.out.trans (hb.mono HBx.out.size))
      clear ho hb
      go_wp2_with fail
      go_ret2
      exact ⟨q', d', fun _ => ⟨rfl, HOw.out⟩, fun h => (by cases h), HB11.out⟩
  · have d1 : decide (1099511627776 < rev) = true := by simp; omega
    rw [decide_eq_false k1, Bool.false_and] at hr
    subst hr
    clear k1
    go_enter Tryd.func14, Tryd.ntmps14
    have hK := HK.out
    have m0 := hK.cell 0
    have m1 := hK.cell 1
    have m2 := hK.cell 2
    have m3 := hK.cell 3
    have m4 := hK.cell 4
    have m5 := hK.cell 5
    have m6 := hK.cell 6
    have hz := hK.lt
    simp only [List.getElem?_toArray, List.getElem?_cons_succ, List.getElem?_cons_zero] at m0 m1 m2 m3 m4 m5 m6
    clear hK
    go_wp2_with fail
    go_ret2
    exact ⟨none, 0, fun h => (by cases h), fun _ => rfl, HB.out⟩
set_option maxHeartbeats 6400000 in
set_option maxRecDepth 100000 in
theorem ref15_PutNotice {w : World} {S : Nat → Prop} {cl doc rev : Int} {o : Opr} {p : Option Addr} {k : Nat} (h : UtsRd w S (.slice p o.us.length k) o.us) (hw : WfN cl doc rev o) {r : Bool} (hr : mayNo rev o = r) :
    Calls Tryd.prog 15 #[.agg #[.int .u32 cl, .int .u32 doc, .int .u64 rev, .int .u32 o.cl, .int .u64 o.rq, .slice p o.us.length k, .bool o.un]] w fun x w' => PutR w w' (noBytes cl doc rev o) r x := by
  obtain ⟨bs, hbs⟩ : ∃ x, noBytes cl doc rev o = x := ⟨_, rfl⟩
  rw [hbs]
  have hba := (Below.refl w.heap.size w).alloc (Nat.le_refl _) (.cells #[.int .u32 cl, .int .u32 doc, .int .u64 rev, .int .u32 o.cl, .int .u64 o.rq, .slice p o.us.length k, .bool o.un] 48)
  have HK := Lib.hid (Blk.new w 48 #[.int .u32 cl, .int .u32 doc, .int .u64 rev, .int .u32 o.cl, .int .u64 o.rq, .slice p o.us.length k, .bool o.un])
  have HB := Lib.hid hba
  have H := Lib.hid (h.below hba)
  have Hbs := Lib.hid hbs
  have Hw := Lib.hid hw
  have hfew := hw.op.few
  have hul : o.us.length ≤ 1000000 := by omega
  unfold mayNo at hr
  clear h hw hbs hba
  by_cases k1 : rev ≤ 1099511627776
  · have d1 : decide (1099511627776 < rev) = false := by simp; omega
    rw [decide_eq_true k1, Bool.true_and] at hr
    have Hr := Lib.hid hr
    have Hk1 := Lib.hid k1
    clear hr k1
    go_enter Tryd.func15, Tryd.ntmps15
    have hK := HK.out
    have m0 := hK.cell 0
    have m1 := hK.cell 1
    have m2 := hK.cell 2
    have m3 := hK.cell 3
    have m4 := hK.cell 4
    have m5 := hK.cell 5
    have m6 := hK.cell 6
    have hz := hK.lt
    simp only [List.getElem?_toArray, List.getElem?_cons_succ, List.getElem?_cons_zero] at m0 m1 m2 m3 m4 m5 m6
    clear hK
    go_wp2_with fail
    generalize w.alloc (.cells #[.int .u32 cl, .int .u32 doc, .int .u64 rev, .int .u32 o.cl, .int .u64 o.rq, .slice p o.us.length k, .bool o.un] 48) = W1 at *
    refine (ref15_Row H.out hul).mono ?_
    rw [Hr.out]
    rintro _ w2 ⟨rfl, hb2⟩
    have H2 := Lib.hid (H.out.below hb2)
    have HK2 := Lib.hid (HK.out.below hb2)
    have HB2 := Lib.hid (HB.out.trans (hb2.mono HB.out.size))
    clear hb2 H HK HB m0 m1 m2 m3 m4 m5 m6 hz
    have hK := HK2.out
    have m0 := hK.cell 0
    have m1 := hK.cell 1
    have m2 := hK.cell 2
    have m3 := hK.cell 3
    have m4 := hK.cell 4
    have m5 := hK.cell 5
    have m6 := hK.cell 6
    have hz := hK.lt
    simp only [List.getElem?_toArray, List.getElem?_cons_succ, List.getElem?_cons_zero] at m0 m1 m2 m3 m4 m5 m6
    clear hK
    cases r with
    | false =>
      go_wp2_with fail
      go_ret2
      exact ⟨none, 0, fun h => (by cases h), fun _ => rfl, HB2.out⟩
    | true =>
      have hwc := Hw.out.cl
      have hwd := Hw.out.doc
      have hwr := Hw.out.rev
      have Hwo := Lib.hid Hw.out.op
      clear Hw
      obtain ⟨cn, rfl⟩ := Int.eq_ofNat_of_zero_le hwc.1
      obtain ⟨dn, rfl⟩ := Int.eq_ofNat_of_zero_le hwd.1
      obtain ⟨rn, rfl⟩ := Int.eq_ofNat_of_zero_le hwr
      have c1 : IntKind.u64.wrap (cn : Int) = cn := IntWalk.u64_in _ (by omega)
      have c2 : IntKind.u64.wrap (dn : Int) = dn := IntWalk.u64_in _ (by omega)
      have Hn := Lib.hid (show cn < 18446744073709551616 ∧ dn < 18446744073709551616 ∧ rn < 18446744073709551616 by have := Hk1.out; omega)
      clear hwc hwd hwr
      have HX0 := Lib.hid (OutB.start w2)
      have HC0 := Lib.hid (Below.refl w2.heap.size w2)
      go_wp2_with fail
      refine (HX0.out.put Hn.out.1 (by omega)).mono ?_
      rintro _ v1 ⟨y1, rfl, ho, hb⟩
      obtain ⟨b1, hb1⟩ : ∃ x, [] ++ Lib.uvarint cn = x := ⟨_, rfl⟩
      rw [hb1] at ho
      have HX1 := Lib.hid (ho.more (show _ ≤ 10 by omega))
      have HC1 := Lib.hid (HC0.out.trans (hb.mono HC0.out.size))
      have Hb1 := Lib.hid hb1
      clear ho hb hb1 HX0 HC0 m0 m1 m2 m3 m4 m5 m6 hz
      have hK := (HK2.out.below HC1.out)
      have m0 := hK.cell 0
      have m1 := hK.cell 1
      have m2 := hK.cell 2
      have m3 := hK.cell 3
      have m4 := hK.cell 4
      have m5 := hK.cell 5
      have m6 := hK.cell 6
      have hz := hK.lt
      simp only [List.getElem?_toArray, List.getElem?_cons_succ, List.getElem?_cons_zero] at m0 m1 m2 m3 m4 m5 m6
      clear hK
      go_wp2_with fail
      refine (HX1.out.put Hn.out.2.1 (by omega)).mono ?_
      rintro _ v2 ⟨y2, rfl, ho, hb⟩
      obtain ⟨b2, hb2⟩ : ∃ x, b1 ++ Lib.uvarint dn = x := ⟨_, rfl⟩
      rw [hb2] at ho
      have HX2 := Lib.hid (ho.more (show _ ≤ 20 by omega))
      have HC2 := Lib.hid (HC1.out.trans (hb.mono HC1.out.size))
      have Hb2 := Lib.hid hb2
      clear ho hb hb2 HX1 HC1 m0 m1 m2 m3 m4 m5 m6 hz
      have hK := (HK2.out.below HC2.out)
      have m0 := hK.cell 0
      have m1 := hK.cell 1
      have m2 := hK.cell 2
      have m3 := hK.cell 3
      have m4 := hK.cell 4
      have m5 := hK.cell 5
      have m6 := hK.cell 6
      have hz := hK.lt
      simp only [List.getElem?_toArray, List.getElem?_cons_succ, List.getElem?_cons_zero] at m0 m1 m2 m3 m4 m5 m6
      clear hK
      go_wp2_with fail
      refine (HX2.out.put Hn.out.2.2 (by omega)).mono ?_
      rintro _ v3 ⟨y3, rfl, ho, hb⟩
      obtain ⟨b3, hb3⟩ : ∃ x, b2 ++ Lib.uvarint rn = x := ⟨_, rfl⟩
      rw [hb3] at ho
      have HX3 := Lib.hid (ho.more (show _ ≤ 30 by omega))
      have HC3 := Lib.hid (HC2.out.trans (hb.mono HC2.out.size))
      have Hb3 := Lib.hid hb3
      clear ho hb hb3 HX2 HC2 m0 m1 m2 m3 m4 m5 m6 hz
      have hK := (HK2.out.below HC3.out)
      have m0 := hK.cell 0
      have m1 := hK.cell 1
      have m2 := hK.cell 2
      have m3 := hK.cell 3
      have m4 := hK.cell 4
      have m5 := hK.cell 5
      have m6 := hK.cell 6
      have hz := hK.lt
      simp only [List.getElem?_toArray, List.getElem?_cons_succ, List.getElem?_cons_zero] at m0 m1 m2 m3 m4 m5 m6
      clear hK
      go_wp2_with fail
      have HU := Lib.hid (H2.out.below HC3.out)
      refine (HX3.out.op HU.out Hwo.out Hr.out (by omega)).mono ?_
      rintro _ v4 ⟨y4, rfl, ho, hb⟩
      have e : b3 ++ oprBytes o = bs := by
        rw [← Hb3.out, ← Hb2.out, ← Hb1.out, ← Hbs.out]
        rfl
      rw [e] at ho
      have hfin := ho.own
      obtain ⟨q', d', rfl⟩ := own_cmd_slice hfin
      have HOw := Lib.hid (CmdOwn.base hfin HB2.out.size)
      have HBf := Lib.hid (HB2.out.trans ((HC3.out.trans (hb.mono HC3.out.size)).mono HB2.out.size))
      clear hfin ho hb e m0 m1 m2 m3 m4 m5 m6 hz
      go_wp2_with fail
      go_ret2
      exact ⟨q', d', fun _ => ⟨rfl, HOw.out⟩, fun h => (by cases h), HBf.out⟩
  · have d1 : decide (1099511627776 < rev) = true := by simp; omega
    rw [decide_eq_false k1, Bool.false_and] at hr
    subst hr
    clear k1
    go_enter Tryd.func15, Tryd.ntmps15
    have hK := HK.out
    have m0 := hK.cell 0
    have m1 := hK.cell 1
    have m2 := hK.cell 2
    have m3 := hK.cell 3
    have m4 := hK.cell 4
    have m5 := hK.cell 5
    have m6 := hK.cell 6
    have hz := hK.lt
    simp only [List.getElem?_toArray, List.getElem?_cons_succ, List.getElem?_cons_zero] at m0 m1 m2 m3 m4 m5 m6
    clear hK
    go_wp2_with fail
    go_ret2
    exact ⟨none, 0, fun h => (by cases h), fun _ => rfl, HB.out⟩
end Go.Proofs.YtciojggkcmdjiaaDoor
