/-
  cmd.WriteOp, cmd.PutAnswer: their contracts. (Printed by wip/gen_puta15.py.)
-/
import Derived.Test.YtciojggkcmdjiaaDoorMayA15
namespace Go.Proofs.YtciojggkcmdjiaaDoor
open Go.RowKit
set_option linter.unusedSimpArgs false
set_option linter.unusedVariables false

theorem ChsRd.ext {w w' : World} {S M : Nat → Prop} {v : Value} {t : List Int} (h : ChsRd w S v t) (he : Ext M w w') (hm : ∀ k, S k → ¬ M k) : ChsRd w' S v t := Rd.ext h he hm (by decide)
theorem StsRd.ext {w w' : World} {S M : Nat → Prop} {v : Value} {t : List St} (h : StsRd w S v t) (he : Ext M w w') (hm : ∀ k, S k → ¬ M k) : StsRd w' S v t := by
  obtain ⟨cs, hr, hE⟩ := h
  exact ⟨cs, Rd.ext hr he hm (by decide), hE⟩
theorem UtsRd.ext {w w' : World} {S M : Nat → Prop} {v : Value} {t : List Ut} (h : UtsRd w S v t) (he : Ext M w w') (hm : ∀ k, S k → ¬ M k) : UtsRd w' S v t := h.keep (fun j hj hSj => he.block j hj (hm j hSj)) (fun _ h _ => h)
theorem OpsRd.ext {w w' : World} {S M : Nat → Prop} {v : Value} {t : List Opr} (h : OpsRd w S v t) (he : Ext M w w') (hm : ∀ k, S k → ¬ M k) : OpsRd w' S v t := by
  obtain ⟨cs, hr, hE⟩ := h
  exact ⟨cs, Rd.ext hr he hm (by decide), hE.imp fun c x _ ⟨p, k, hc, hu⟩ => ⟨p, k, hc, hu.ext he hm⟩⟩
theorem WrAny.lt {w : World} {a : Nat} {bs : List UInt8} (h : WrAny w a bs) : a < w.heap.size := by
  obtain ⟨lo, hi, _, hb, _⟩ := h
  exact hb.lt
set_option maxHeartbeats 6400000 in
set_option maxRecDepth 100000 in
theorem wr_Op {w : World} {S : Nat → Prop} {a : Nat} {bs : List UInt8} {o : Opr} {p : Option Addr} {k : Nat} (hr : WrAny w a bs) (h : UtsRd w S (.slice p o.us.length k) o.us) (hS : ¬ S a) (hw : WfO o) (hrow : rowB o.us = true) (hb : bs.length ≤ 900000) :
    Calls Tryd.prog 38 #[.pointer (some ⟨a, 0, none⟩), .agg #[.int .u32 o.cl, .int .u64 o.rq, .slice p o.us.length k, .bool o.un]] w fun e w' => e = .returned (.tuple #[]) ∧ WrAny w' a (bs ++ oprBytes o) ∧ Ext (· = a) w w' := by
  obtain ⟨cl, rq, us, un⟩ := o
  simp only at h hrow
  have hcl := hw.cl
  have hrq := hw.rq
  have hfew := hw.few
  simp only at hcl hrq hfew
  obtain ⟨n0, rfl⟩ := Int.eq_ofNat_of_zero_le hcl.1
  obtain ⟨n1, rfl⟩ := Int.eq_ofNat_of_zero_le hrq.1
  have hba := (Below.refl w.heap.size w).alloc (Nat.le_refl _) (.cells #[.int .u32 n0, .int .u64 n1, .slice p us.length k, .bool un] 46)
  have HK := Lib.hid (Blk.new w 46 #[.int .u32 n0, .int .u64 n1, .slice p us.length k, .bool un])
  have HW0 := Lib.hid (hr.below hba)
  have Hne := Lib.hid (show w.heap.size ≠ a by have := hr.lt; omega)
  have HE0 := Lib.hid (Ext.of_below (· = a) hba)
  have H := Lib.hid (h.below hba)
  have Hok := Lib.hid (hw.ok hrow)
  have H0 := Lib.hid (show n0 < 18446744073709551616 by omega)
  have H1 := Lib.hid (show n1 < 18446744073709551616 by omega)
  have H2 := Lib.hid hfew
  have Hl := Lib.hid hb
  have HSa := Lib.hid hS
  have Hbs := Lib.hid (show bs ++ Lib.uvarint n0 ++ Lib.uvarint n1 ++ Lib.uvarint un.toNat ++ rowBytes us = bs ++ oprBytes ⟨n0, n1, us, un⟩ by simp [oprBytes, List.append_assoc])
  have Hub := Lib.hid (show (Lib.uvarint n0).length ≤ 10 ∧ (Lib.uvarint n1).length ≤ 10 ∧ (Lib.uvarint un.toNat).length ≤ 10 from ⟨Lib.uvarint_length64 H0.out, Lib.uvarint_length64 H1.out, Lib.uvarint_length64 (by cases un <;> decide)⟩)
  have c1 : IntKind.u64.wrap (n0 : Int) = n0 := IntWalk.u64_in _ (by omega)
  clear hr h hw hcl hrq hfew hba hb hS hrow
  go_enter Tryd.func38, Tryd.ntmps38
  have hK := HK.out
  have m0 := hK.cell 0
  have m1 := hK.cell 1
  have m2 := hK.cell 2
  have m3 := hK.cell 3
  have hz := hK.lt
  simp only [List.getElem?_toArray, List.getElem?_cons_succ, List.getElem?_cons_zero] at m0 m1 m2 m3
  clear hK
  go_wp2_with fail
  generalize w.alloc (.cells #[.int .u32 n0, .int .u64 n1, .slice p us.length k, .bool un] 46) = W1 at *
  have HF0 := Lib.hid (Ext.refl (· = a) W1)
  refine (wr_Any HW0.out H0.out (by have := Hl.out; omega)).mono ?_
  rintro _ w2 ⟨rfl, hw, hE⟩
  obtain ⟨b1, hb1⟩ : ∃ x, bs ++ Lib.uvarint n0 = x := ⟨_, rfl⟩
  rw [hb1] at hw
  have HW1 := Lib.hid hw
  have HF1 := Lib.hid (HF0.out.trans hE)
  have Hl1 := Lib.hid (show b1.length ≤ 900010 from by have h1 := Hub.out; have h0 := Hl.out; rw [← hb1]; simp only [List.length_append]; omega)
  have Hb1 := Lib.hid hb1
  clear hw hE hb1 HW0 HF0 m0 m1 m2 m3 hz
  have hK := (HK.out.ext HF1.out Hne.out)
  have m0 := hK.cell 0
  have m1 := hK.cell 1
  have m2 := hK.cell 2
  have m3 := hK.cell 3
  have hz := hK.lt
  simp only [List.getElem?_toArray, List.getElem?_cons_succ, List.getElem?_cons_zero] at m0 m1 m2 m3
  clear hK
  go_wp2_with fail
  refine (wr_Any HW1.out H1.out (by have := Hl1.out; omega)).mono ?_
  rintro _ w3 ⟨rfl, hw, hE⟩
  obtain ⟨b2, hb2⟩ : ∃ x, b1 ++ Lib.uvarint n1 = x := ⟨_, rfl⟩
  rw [hb2] at hw
  have HW2 := Lib.hid hw
  have HF2 := Lib.hid (HF1.out.trans hE)
  have Hl2 := Lib.hid (show b2.length ≤ 900020 from by have h1 := Hub.out; have h0 := Hl1.out; rw [← hb2]; simp only [List.length_append]; omega)
  have Hb2 := Lib.hid hb2
  clear hw hE hb2 HW1 HF1 m0 m1 m2 m3 hz
  have hK := (HK.out.ext HF2.out Hne.out)
  have m0 := hK.cell 0
  have m1 := hK.cell 1
  have m2 := hK.cell 2
  have m3 := hK.cell 3
  have hz := hK.lt
  simp only [List.getElem?_toArray, List.getElem?_cons_succ, List.getElem?_cons_zero] at m0 m1 m2 m3
  clear hK
  go_wp2_with fail
  refine (wr_BoolAny (x := un) HW2.out (by have := Hl2.out; omega)).mono ?_
  rintro _ w4 ⟨rfl, hw, hE⟩
  obtain ⟨b3, hb3⟩ : ∃ x, b2 ++ Lib.uvarint un.toNat = x := ⟨_, rfl⟩
  rw [hb3] at hw
  have HW3 := Lib.hid hw
  have HF3 := Lib.hid (HF2.out.trans hE)
  have Hl3 := Lib.hid (show b3.length ≤ 900030 from by have h1 := Hub.out; have h0 := Hl2.out; rw [← hb3]; simp only [List.length_append]; omega)
  have Hb3 := Lib.hid hb3
  clear hw hE hb3 HW2 HF2 m0 m1 m2 m3 hz
  have hK := (HK.out.ext HF3.out Hne.out)
  have m0 := hK.cell 0
  have m1 := hK.cell 1
  have m2 := hK.cell 2
  have m3 := hK.cell 3
  have hz := hK.lt
  simp only [List.getElem?_toArray, List.getElem?_cons_succ, List.getElem?_cons_zero] at m0 m1 m2 m3
  clear hK
  go_wp2_with fail
  have HU := Lib.hid (H.out.ext HF3.out (fun k hk e => HSa.out (e ▸ hk)))
  refine (weave_Write HW3.out HU.out HSa.out Hok.out (by have := H2.out; omega) (by have := Hl3.out; omega)).mono ?_
  rintro _ w5 ⟨rfl, hw, hE⟩
  have e : b3 ++ rowBytes us = bs ++ oprBytes ⟨n0, n1, us, un⟩ := by rw [← Hb3.out, ← Hb2.out, ← Hb1.out]; exact Hbs.out
  rw [e] at hw
  have HW := Lib.hid hw
  have HE := Lib.hid (HE0.out.trans (HF3.out.trans hE))
  clear hw hE e m0 m1 m2 m3 hz
  go_wp2_with fail
  exact bodyPost_end (results_none rfl _ _ _) rfl ⟨rfl, HW.out, HE.out⟩
set_option maxHeartbeats 12800000 in
set_option maxRecDepth 100000 in
theorem cmd_PutAnswer {w : World} {S : Nat → Prop} {a : An} {p q s : Option Addr} {c d e : Nat} (ht : ChsRd w S (.slice p a.text.length c) a.text) (ho : OpsRd w S (.slice q a.ops.length d) a.ops) (hs : StsRd w S (.slice s a.seats.length e) a.seats) (hS : ∀ j, S j → j < w.heap.size) (hw : WfA a) {r : Bool} (hr : mayAn a = r) :
    Calls Tryd.prog 12 #[.agg #[.int .i64 a.err, .int .u32 a.doc, .int .u64 a.rev, .bool a.whole, .slice p a.text.length c, .slice q a.ops.length d, .slice s a.seats.length e]] w fun x w' => PutR w w' (anBytes a) r x := by
  obtain ⟨bs, hbs⟩ : ∃ x, anBytes a = x := ⟨_, rfl⟩
  rw [hbs]
  have hb := (Below.refl w.heap.size w).alloc (Nat.le_refl _) (.cells #[.int .i64 a.err, .int .u32 a.doc, .int .u64 a.rev, .bool a.whole, .slice p a.text.length c, .slice q a.ops.length d, .slice s a.seats.length e] 41)
  have HK := Lib.hid (Blk.new w 41 #[.int .i64 a.err, .int .u32 a.doc, .int .u64 a.rev, .bool a.whole, .slice p a.text.length c, .slice q a.ops.length d, .slice s a.seats.length e])
  have HB := Lib.hid hb
  have HT := Lib.hid (ht.below hb)
  have HO := Lib.hid (ho.below hb)
  have HSt := Lib.hid (hs.below hb)
  have HSS := Lib.hid hS
  have Hw := Lib.hid hw
  have Hr := Lib.hid hr
  have Hbs := Lib.hid hbs
  clear ht ho hs hS hw hr hbs hb
  go_enter Tryd.func12, Tryd.ntmps12
  go_wp2_with fail
  generalize w.alloc (.cells #[.int .i64 a.err, .int .u32 a.doc, .int .u64 a.rev, .bool a.whole, .slice p a.text.length c, .slice q a.ops.length d, .slice s a.seats.length e] 41) = W1 at *
  refine (cmd_mayAnswer HT.out HO.out HSt.out Hw.out).mono ?_
  rw [Hr.out]
  rintro _ w2 ⟨rfl, hb2⟩
  have HT2 := Lib.hid (HT.out.below hb2)
  have HO2 := Lib.hid (HO.out.below hb2)
  have HSt2 := Lib.hid (HSt.out.below hb2)
  have HK2 := Lib.hid (HK.out.below hb2)
  have HB2 := Lib.hid (HB.out.trans (hb2.mono HB.out.size))
  clear hb2 HT HO HSt HK HB
  cases r with
  | false =>
    go_wp2_with fail
    go_ret2
    exact ⟨none, 0, fun h => (by cases h), fun _ => rfl, HB2.out⟩
  | true =>
    obtain ⟨err, doc, rev, wh, text, ops, seats⟩ := a
    have hw := Hw.out
    obtain ⟨k1, k2, k3, k4, k5, k6⟩ := mayAn_ok Hr.out
    have u1 := hw.err
    have u2 := hw.doc
    have u3 := hw.rev
    have u4 := hw.text
    have u5 := hw.nops
    have Hwo := Lib.hid hw.ops
    have Hws := Lib.hid hw.seats
    have HT3 := HT2.out
    have HO3 := HO2.out
    have HSt3 := HSt2.out
    have HK3 := HK2.out
    simp only at k1 k2 k3 k4 k5 k6 u1 u2 u3 u4 u5 Hwo Hws HT3 HO3 HSt3 HK3 ⊢
    have HT3 := Lib.hid HT3
    have HO3 := Lib.hid HO3
    have HSt3 := Lib.hid HSt3
    have HK3 := Lib.hid HK3
    have Hk3 := Lib.hid k3
    have Hk4 := Lib.hid k4
    have Hk6 := Lib.hid k6
    clear HT2 HO2 HSt2 HK2 k3 k4 k6 hw Hw Hr
    obtain ⟨en, rfl⟩ := Int.eq_ofNat_of_zero_le k1
    obtain ⟨dn, rfl⟩ := Int.eq_ofNat_of_zero_le u2.1
    obtain ⟨rn, rfl⟩ := Int.eq_ofNat_of_zero_le u3
    have c1 : IntKind.u64.wrap (en : Int) = en := IntWalk.u64_in _ (by omega)
    have c2 : IntKind.u64.wrap (dn : Int) = dn := IntWalk.u64_in _ (by omega)
    have c3 : IntKind.u64.wrap (text.length : Int) = text.length := IntWalk.u64_in _ (by omega)
    have c4 : IntKind.u64.wrap (ops.length : Int) = ops.length := IntWalk.u64_in _ (by omega)
    have c5 : IntKind.u64.wrap (seats.length : Int) = seats.length := IntWalk.u64_in _ (by omega)
    have Hn := Lib.hid (show en < 18446744073709551616 ∧ dn < 18446744073709551616 ∧ rn < 18446744073709551616 ∧ text.length < 18446744073709551616 ∧ ops.length < 18446744073709551616 ∧ seats.length < 18446744073709551616 ∧ wh.toNat < 18446744073709551616 by
      refine ⟨by omega, by omega, by omega, by omega, by omega, by omega, ?_⟩
      cases wh <;> decide)
    have Hub := Lib.hid (show (Lib.uvarint en).length ≤ 10 ∧ (Lib.uvarint dn).length ≤ 10 ∧ (Lib.uvarint rn).length ≤ 10 ∧ (Lib.uvarint text.length).length ≤ 10 ∧ (Lib.uvarint ops.length).length ≤ 10 ∧ (Lib.uvarint seats.length).length ≤ 10 ∧ (Lib.uvarint wh.toNat).length ≤ 10 from
      ⟨Lib.uvarint_length64 Hn.out.1, Lib.uvarint_length64 Hn.out.2.1, Lib.uvarint_length64 Hn.out.2.2.1, Lib.uvarint_length64 Hn.out.2.2.2.1, Lib.uvarint_length64 Hn.out.2.2.2.2.1, Lib.uvarint_length64 Hn.out.2.2.2.2.2.1, Lib.uvarint_length64 Hn.out.2.2.2.2.2.2⟩)
    have Hlen := Lib.hid (show text.length ≤ 300 ∧ ops.length ≤ 20 ∧ seats.length ≤ 16 from ⟨u4, u5, k5⟩)
    have Hft := Lib.hid (show ∀ k, ((text.take k).flatMap chBytes).length ≤ 3000 from fun k => by
      have h := flat_len (f := chBytes) (m := 10) (l := text.take k) fun c hc => chBytes_len (Hk3.out c (List.mem_of_mem_take hc))
      rw [List.length_take] at h
      omega)
    have Hfo := Lib.hid (show ∀ k, ((ops.take k).flatMap oprBytes).length ≤ 400000 from fun k => by
      have h := flat_len (f := oprBytes) (m := 20000) (l := ops.take k) fun o ho => oprBytes_len (Hwo.out o (List.mem_of_mem_take ho)) (Hk4.out o (List.mem_of_mem_take ho))
      rw [List.length_take] at h
      omega)
    have Hfs := Lib.hid (show ∀ k, ((seats.take k).flatMap stBytes).length ≤ 480 from fun k => by
      have h := flat_len (f := stBytes) (m := 30) (l := seats.take k) fun s hs => stBytes_len (Hws.out s (List.mem_of_mem_take hs)) (Hk6.out s (List.mem_of_mem_take hs))
      rw [List.length_take] at h
      omega)
    clear k1 k2 k5 u1 u2 u3 u4 u5
    have hba := (Below.refl w2.heap.size w2).alloc (Nat.le_refl _) (.cells #[.slice none 0 0] 59)
    have HK4 := Lib.hid (HK3.out.below hba)
    have HT4 := Lib.hid (HT3.out.below hba)
    have HO4 := Lib.hid (HO3.out.below hba)
    have HSt4 := Lib.hid (HSt3.out.below hba)
    have HB3 := Lib.hid (HB2.out.trans (hba.mono HB2.out.size))
    have HW0 := Lib.hid (WrAny.new w2)
    have hzz := HK3.out.lt
    have Hne := Lib.hid (show w.heap.size ≠ w2.heap.size by omega)
    have Haw := Lib.hid (show w.heap.size ≤ w2.heap.size by omega)
    have HSa := Lib.hid (show ∀ k, S k → ¬ (k = w2.heap.size) from fun k hk e => by have := HSS.out k hk; omega)
    have hK := HK3.out
    have m0 := hK.cell 0
    have m1 := hK.cell 1
    have m2 := hK.cell 2
    have m3 := hK.cell 3
    have m4 := hK.cell 4
    have m5 := hK.cell 5
    have m6 := hK.cell 6
    have hz := hK.lt
    simp only [List.getElem?_toArray, List.getElem?_cons_succ, List.getElem?_cons_zero] at m0 m1 m2 m3 m4 m5 m6
    clear hK
    clear hba HK3 HT3 HO3 HSt3 HB2 hzz
    go_wp2_with fail
    generalize w2.alloc (.cells #[.slice none 0 0] 59) = W3 at *
    generalize w2.heap.size = a at *
    have HE0 := Lib.hid (Ext.refl (· = a) W3)
    have Hl0 := Lib.hid (show ([] : List UInt8).length ≤ 0 from Nat.le_refl _)
    refine (wr_Any HW0.out Hn.out.1 (by simp)).mono ?_
    rintro _ v1 ⟨rfl, hw, hE⟩
    obtain ⟨b1, hb1⟩ : ∃ x, [] ++ Lib.uvarint en = x := ⟨_, rfl⟩
    rw [hb1] at hw
    have HW1 := Lib.hid hw
    have HE1 := Lib.hid (HE0.out.trans hE)
    have Hl1 := Lib.hid (show b1.length ≤ 10 from by have h1 := Hub.out; have h0 := Hl0.out; rw [← hb1]; simp only [List.length_append]; omega)
    have Hb1 := Lib.hid hb1
    clear hw hE hb1 HW0 HE0 m0 m1 m2 m3 m4 m5 m6 hz
    have hK := (HK4.out.ext HE1.out Hne.out)
    have m0 := hK.cell 0
    have m1 := hK.cell 1
    have m2 := hK.cell 2
    have m3 := hK.cell 3
    have m4 := hK.cell 4
    have m5 := hK.cell 5
    have m6 := hK.cell 6
    have hz := hK.lt
    simp only [List.getElem?_toArray, List.getElem?_cons_succ, List.getElem?_cons_zero] at m0 m1 m2 m3 m4 m5 m6
    clear hK
    go_wp2_with fail
    refine (wr_Any HW1.out Hn.out.2.1 (by have := Hl1.out; omega)).mono ?_
    rintro _ v2 ⟨rfl, hw, hE⟩
    obtain ⟨b2, hb2⟩ : ∃ x, b1 ++ Lib.uvarint dn = x := ⟨_, rfl⟩
    rw [hb2] at hw
    have HW2 := Lib.hid hw
    have HE2 := Lib.hid (HE1.out.trans hE)
    have Hl2 := Lib.hid (show b2.length ≤ 20 from by have h1 := Hub.out; have h0 := Hl1.out; rw [← hb2]; simp only [List.length_append]; omega)
    have Hb2 := Lib.hid hb2
    clear hw hE hb2 HW1 HE1 m0 m1 m2 m3 m4 m5 m6 hz
    have hK := (HK4.out.ext HE2.out Hne.out)
    have m0 := hK.cell 0
    have m1 := hK.cell 1
    have m2 := hK.cell 2
    have m3 := hK.cell 3
    have m4 := hK.cell 4
    have m5 := hK.cell 5
    have m6 := hK.cell 6
    have hz := hK.lt
    simp only [List.getElem?_toArray, List.getElem?_cons_succ, List.getElem?_cons_zero] at m0 m1 m2 m3 m4 m5 m6
    clear hK
    go_wp2_with fail
    refine (wr_Any HW2.out Hn.out.2.2.1 (by have := Hl2.out; omega)).mono ?_
    rintro _ v3 ⟨rfl, hw, hE⟩
    obtain ⟨b3, hb3⟩ : ∃ x, b2 ++ Lib.uvarint rn = x := ⟨_, rfl⟩
    rw [hb3] at hw
    have HW3 := Lib.hid hw
    have HE3 := Lib.hid (HE2.out.trans hE)
    have Hl3 := Lib.hid (show b3.length ≤ 30 from by have h1 := Hub.out; have h0 := Hl2.out; rw [← hb3]; simp only [List.length_append]; omega)
    have Hb3 := Lib.hid hb3
    clear hw hE hb3 HW2 HE2 m0 m1 m2 m3 m4 m5 m6 hz
    have hK := (HK4.out.ext HE3.out Hne.out)
    have m0 := hK.cell 0
    have m1 := hK.cell 1
    have m2 := hK.cell 2
    have m3 := hK.cell 3
    have m4 := hK.cell 4
    have m5 := hK.cell 5
    have m6 := hK.cell 6
    have hz := hK.lt
    simp only [List.getElem?_toArray, List.getElem?_cons_succ, List.getElem?_cons_zero] at m0 m1 m2 m3 m4 m5 m6
    clear hK
    go_wp2_with fail
    refine (wr_BoolAny (x := wh) HW3.out (by have := Hl3.out; omega)).mono ?_
    rintro _ v4 ⟨rfl, hw, hE⟩
    obtain ⟨b4, hb4⟩ : ∃ x, b3 ++ Lib.uvarint wh.toNat = x := ⟨_, rfl⟩
    rw [hb4] at hw
    have HW4 := Lib.hid hw
    have HE4 := Lib.hid (HE3.out.trans hE)
    have Hl4 := Lib.hid (show b4.length ≤ 40 from by have h1 := Hub.out; have h0 := Hl3.out; rw [← hb4]; simp only [List.length_append]; omega)
    have Hb4 := Lib.hid hb4
    clear hw hE hb4 HW3 HE3 m0 m1 m2 m3 m4 m5 m6 hz
    have hK := (HK4.out.ext HE4.out Hne.out)
    have m0 := hK.cell 0
    have m1 := hK.cell 1
    have m2 := hK.cell 2
    have m3 := hK.cell 3
    have m4 := hK.cell 4
    have m5 := hK.cell 5
    have m6 := hK.cell 6
    have hz := hK.lt
    simp only [List.getElem?_toArray, List.getElem?_cons_succ, List.getElem?_cons_zero] at m0 m1 m2 m3 m4 m5 m6
    clear hK
    go_wp2_with fail
    refine (wr_Any HW4.out Hn.out.2.2.2.1 (by have := Hl4.out; omega)).mono ?_
    rintro _ v5 ⟨rfl, hw, hE⟩
    obtain ⟨b5, hb5⟩ : ∃ x, b4 ++ Lib.uvarint text.length = x := ⟨_, rfl⟩
    rw [hb5] at hw
    have HW5 := Lib.hid hw
    have HE5 := Lib.hid (HE4.out.trans hE)
    have Hl5 := Lib.hid (show b5.length ≤ 50 from by have h1 := Hub.out; have h0 := Hl4.out; rw [← hb5]; simp only [List.length_append]; omega)
    have Hb5 := Lib.hid hb5
    clear hw hE hb5 HW4 HE4 m0 m1 m2 m3 m4 m5 m6 hz
    have hK := (HK4.out.ext HE5.out Hne.out)
    have m0 := hK.cell 0
    have m1 := hK.cell 1
    have m2 := hK.cell 2
    have m3 := hK.cell 3
    have m4 := hK.cell 4
    have m5 := hK.cell 5
    have m6 := hK.cell 6
    have hz := hK.lt
    simp only [List.getElem?_toArray, List.getElem?_cons_succ, List.getElem?_cons_zero] at m0 m1 m2 m3 m4 m5 m6
    clear hK
    go_wp2_with fail
    clear m0 m1 m2 m3 m4 m5 m6 hz
    go_loopw [36] (fun iv wr => ∃ k : Nat, k ≤ text.length ∧ iv = .int .i64 k ∧ Hid (WrAny wr a (b5 ++ (text.take k).flatMap chBytes) ∧ Ext (· = a) W3 wr)) (fun iv _ => text.length - (intOf iv).toNat)
    case atStart => exact ⟨0, Nat.zero_le _, rfl, Lib.hid ⟨by simpa using HW5.out, HE5.out⟩⟩
    case round =>
      obtain ⟨w59, hw59⟩ : ∃ x, x = wr := ⟨_, rfl⟩
      subst hw59
      obtain ⟨k, hk, rfl, hR⟩ := hrel
      by_cases hlt : k < text.length
      · have hll := Hlen.out
        obtain ⟨g, off, rfl, hc, e0⟩ := (HT4.out.ext hR.out.2 HSa.out).at_ hlt
        have Htk := Lib.hid (show text.take (k + 1) = text.take k ++ [text[k]] from List.take_succ_eq_append_getElem hlt)
        have Hin := Lib.hid (show text[k] ∈ text from List.getElem_mem hlt)
        generalize text[k]'hlt = u at *
        have Hl := Lib.hid (show (b5 ++ (text.take k).flatMap chBytes).length ≤ 3050 from by have h1 := Hft.out k; have h0 := Hl5.out; rw [List.length_append]; omega)
        have HW := Lib.hid hR.out.1
        have HE := Lib.hid hR.out.2
        clear hR hll
        have hc := mayC_iff (Hk3.out u Hin.out)
        obtain ⟨n0, rfl⟩ := Int.eq_ofNat_of_zero_le (show 0 ≤ u by omega)
        have cc : IntKind.u64.wrap (n0 : Int) = n0 := IntWalk.u64_in _ (by omega)
        have hgz := lt_of_cell e0
        go_wp2_with fail
        refine (wr_Any (n := n0) HW.out (by omega) (by have := Hl.out; omega)).mono ?_
        rintro _ u1 ⟨rfl, hw, hE⟩
        have HWn := Lib.hid (show WrAny u1 a (b5 ++ (text.take k).flatMap chBytes ++ chBytes n0) from hw)
        have HEn := Lib.hid (HE.out.trans hE)
        clear hw hE HE e0
        have HWf := Lib.hid (show WrAny _ a (b5 ++ (text.take (k + 1)).flatMap chBytes) from by rw [Htk.out, List.flatMap_append, List.flatMap_cons, List.flatMap_nil, List.append_nil, ← List.append_assoc]; exact HWn.out)
        clear HWn HW
        have hll := Hlen.out
        go_wp2_with fail
        go_roundw
        case rel => exact ⟨k + 1, by omega, by go_num, Lib.hid ⟨HWf.out, HEn.out⟩⟩
        case measure => simp [intOf]; omega
      · obtain rfl : k = text.length := by omega
        have hx := hR.out.1
        rw [List.take_length] at hx
        have hln := Hft.out text.length
        rw [List.take_length] at hln
        obtain ⟨b6, hb6⟩ : ∃ x, b5 ++ text.flatMap chBytes = x := ⟨_, rfl⟩
        rw [hb6] at hx
        have HW6 := Lib.hid hx
        have HE6 := Lib.hid hR.out.2
        have Hl6 := Lib.hid (show b6.length ≤ 3050 from by have h0 := Hl5.out; rw [← hb6, List.length_append]; omega)
        have Hb6 := Lib.hid hb6
        clear hx hln hb6 hR HW5 HE5
        have hK := (HK4.out.ext HE6.out Hne.out)
        have m0 := hK.cell 0
        have m1 := hK.cell 1
        have m2 := hK.cell 2
        have m3 := hK.cell 3
        have m4 := hK.cell 4
        have m5 := hK.cell 5
        have m6 := hK.cell 6
        have hz := hK.lt
        simp only [List.getElem?_toArray, List.getElem?_cons_succ, List.getElem?_cons_zero] at m0 m1 m2 m3 m4 m5 m6
        clear hK
        go_wp2_with fail
        refine (wr_Any HW6.out Hn.out.2.2.2.2.1 (by have := Hl6.out; omega)).mono ?_
        rintro _ v7 ⟨rfl, hw, hE⟩
        obtain ⟨b7, hb7⟩ : ∃ x, b6 ++ Lib.uvarint ops.length = x := ⟨_, rfl⟩
        rw [hb7] at hw
        have HW7 := Lib.hid hw
        have HE7 := Lib.hid (HE6.out.trans hE)
        have Hl7 := Lib.hid (show b7.length ≤ 3060 from by have h1 := Hub.out; have h0 := Hl6.out; rw [← hb7]; simp only [List.length_append]; omega)
        have Hb7 := Lib.hid hb7
        clear hw hE hb7 HW6 HE6 m0 m1 m2 m3 m4 m5 m6 hz
        have hK := (HK4.out.ext HE7.out Hne.out)
        have m0 := hK.cell 0
        have m1 := hK.cell 1
        have m2 := hK.cell 2
        have m3 := hK.cell 3
        have m4 := hK.cell 4
        have m5 := hK.cell 5
        have m6 := hK.cell 6
        have hz := hK.lt
        simp only [List.getElem?_toArray, List.getElem?_cons_succ, List.getElem?_cons_zero] at m0 m1 m2 m3 m4 m5 m6
        clear hK
        go_wp2_with fail
        clear m0 m1 m2 m3 m4 m5 m6 hz
        go_loopw [52] (fun iv wr => ∃ k : Nat, k ≤ ops.length ∧ iv = .int .i64 k ∧ Hid (WrAny wr a (b7 ++ (ops.take k).flatMap oprBytes) ∧ Ext (· = a) W3 wr)) (fun iv _ => ops.length - (intOf iv).toNat)
        case atStart => exact ⟨0, Nat.zero_le _, rfl, Lib.hid ⟨by simpa using HW7.out, HE7.out⟩⟩
        case round =>
          obtain ⟨w79, hw79⟩ : ∃ x, x = wr := ⟨_, rfl⟩
          subst hw79
          obtain ⟨k, hk, rfl, hR⟩ := hrel
          by_cases hlt : k < ops.length
          · have hll := Hlen.out
            obtain ⟨g, off, qq, dd, rfl, hc, e0, e1, e2, e3, hu⟩ := (HO4.out.ext hR.out.2 HSa.out).at_ hlt
            have Htk := Lib.hid (show ops.take (k + 1) = ops.take k ++ [ops[k]] from List.take_succ_eq_append_getElem hlt)
            have Hin := Lib.hid (show ops[k] ∈ ops from List.getElem_mem hlt)
            generalize ops[k]'hlt = u at *
            have Hl := Lib.hid (show (b7 ++ (ops.take k).flatMap oprBytes).length ≤ 403070 from by have h1 := Hfo.out k; have h0 := Hl7.out; rw [List.length_append]; omega)
            have HW := Lib.hid hR.out.1
            have HE := Lib.hid hR.out.2
            clear hR hll
            have Hwu := Lib.hid (Hwo.out u Hin.out)
            have Hru := Lib.hid (Hk4.out u Hin.out)
            have hgz := lt_of_cell e0
            have hba := (Below.refl w79.heap.size w79).alloc (Nat.le_refl _) (.cells #[.int .u32 u.cl, .int .u64 u.rq, .slice qq u.us.length dd, .bool u.un] 46)
            have HWb := Lib.hid (HW.out.below hba)
            have HUb := Lib.hid (hu.below hba)
            have HEb := Lib.hid (HE.out.trans (Ext.of_below (· = a) hba))
            clear hu hba
            go_wp2_with fail
            generalize w79.alloc (.cells #[.int .u32 u.cl, .int .u64 u.rq, .slice qq u.us.length dd, .bool u.un] 46) = V at *
            refine (wr_Op HWb.out HUb.out (fun h => HSa.out _ h rfl) Hwu.out Hru.out (by have := Hl.out; omega)).mono ?_
            rintro _ u1 ⟨rfl, hw, hE⟩
            have HWn := Lib.hid hw
            have HEn := Lib.hid (HEb.out.trans hE)
            clear hw hE HE HEb HWb HUb e0 e1 e2 e3
            have HWf := Lib.hid (show WrAny _ a (b7 ++ (ops.take (k + 1)).flatMap oprBytes) from by rw [Htk.out, List.flatMap_append, List.flatMap_cons, List.flatMap_nil, List.append_nil, ← List.append_assoc]; exact HWn.out)
            clear HWn HW
            have hll := Hlen.out
            go_wp2_with fail
            go_roundw
            case rel => exact ⟨k + 1, by omega, by go_num, Lib.hid ⟨HWf.out, HEn.out⟩⟩
            case measure => simp [intOf]; omega
          · obtain rfl : k = ops.length := by omega
            have hx := hR.out.1
            rw [List.take_length] at hx
            have hln := Hfo.out ops.length
            rw [List.take_length] at hln
            obtain ⟨b8, hb8⟩ : ∃ x, b7 ++ ops.flatMap oprBytes = x := ⟨_, rfl⟩
            rw [hb8] at hx
            have HW8 := Lib.hid hx
            have HE8 := Lib.hid hR.out.2
            have Hl8 := Lib.hid (show b8.length ≤ 403070 from by have h0 := Hl7.out; rw [← hb8, List.length_append]; omega)
            have Hb8 := Lib.hid hb8
            clear hx hln hb8 hR HW7 HE7
            have hK := (HK4.out.ext HE8.out Hne.out)
            have m0 := hK.cell 0
            have m1 := hK.cell 1
            have m2 := hK.cell 2
            have m3 := hK.cell 3
            have m4 := hK.cell 4
            have m5 := hK.cell 5
            have m6 := hK.cell 6
            have hz := hK.lt
            simp only [List.getElem?_toArray, List.getElem?_cons_succ, List.getElem?_cons_zero] at m0 m1 m2 m3 m4 m5 m6
            clear hK
            go_wp2_with fail
            refine (wr_Any HW8.out Hn.out.2.2.2.2.2.1 (by have := Hl8.out; omega)).mono ?_
            rintro _ v9 ⟨rfl, hw, hE⟩
            obtain ⟨b9, hb9⟩ : ∃ x, b8 ++ Lib.uvarint seats.length = x := ⟨_, rfl⟩
            rw [hb9] at hw
            have HW9 := Lib.hid hw
            have HE9 := Lib.hid (HE8.out.trans hE)
            have Hl9 := Lib.hid (show b9.length ≤ 403080 from by have h1 := Hub.out; have h0 := Hl8.out; rw [← hb9]; simp only [List.length_append]; omega)
            have Hb9 := Lib.hid hb9
            clear hw hE hb9 HW8 HE8 m0 m1 m2 m3 m4 m5 m6 hz
            have hK := (HK4.out.ext HE9.out Hne.out)
            have m0 := hK.cell 0
            have m1 := hK.cell 1
            have m2 := hK.cell 2
            have m3 := hK.cell 3
            have m4 := hK.cell 4
            have m5 := hK.cell 5
            have m6 := hK.cell 6
            have hz := hK.lt
            simp only [List.getElem?_toArray, List.getElem?_cons_succ, List.getElem?_cons_zero] at m0 m1 m2 m3 m4 m5 m6
            clear hK
            go_wp2_with fail
            clear m0 m1 m2 m3 m4 m5 m6 hz
            go_loopw [67] (fun iv wr => ∃ k : Nat, k ≤ seats.length ∧ iv = .int .i64 k ∧ Hid (WrAny wr a (b9 ++ (seats.take k).flatMap stBytes) ∧ Ext (· = a) W3 wr)) (fun iv _ => seats.length - (intOf iv).toNat)
            case atStart => exact ⟨0, Nat.zero_le _, rfl, Lib.hid ⟨by simpa using HW9.out, HE9.out⟩⟩
            case round =>
              obtain ⟨w99, hw99⟩ : ∃ x, x = wr := ⟨_, rfl⟩
              subst hw99
              obtain ⟨k, hk, rfl, hR⟩ := hrel
              by_cases hlt : k < seats.length
              · have hll := Hlen.out
                obtain ⟨g, off, rfl, hc, e0, e1, e2⟩ := (HSt4.out.ext hR.out.2 HSa.out).at_ hlt
                have Htk := Lib.hid (show seats.take (k + 1) = seats.take k ++ [seats[k]] from List.take_succ_eq_append_getElem hlt)
                have Hin := Lib.hid (show seats[k] ∈ seats from List.getElem_mem hlt)
                generalize seats[k]'hlt = u at *
                have Hl := Lib.hid (show (b9 ++ (seats.take k).flatMap stBytes).length ≤ 403600 from by have h1 := Hfs.out k; have h0 := Hl9.out; rw [List.length_append]; omega)
                have HW := Lib.hid hR.out.1
                have HE := Lib.hid hR.out.2
                clear hR hll
                have hc := Hk6.out u Hin.out
                have hd := Hws.out u Hin.out
                unfold farB at hc
                simp only [Bool.and_eq_true, decide_eq_true_eq] at hc
                have hd1 := hd.cl
                have hd2 := hd.til
                obtain ⟨ucl, upos, util⟩ := u
                simp only at hc hd1 hd2 e0 e1 e2
                obtain ⟨n0, rfl⟩ := Int.eq_ofNat_of_zero_le hd1.1
                obtain ⟨n1, rfl⟩ := Int.eq_ofNat_of_zero_le hc.1
                obtain ⟨n2, rfl⟩ := Int.eq_ofNat_of_zero_le hd2.1
                have cc0 : IntKind.u64.wrap (n0 : Int) = n0 := IntWalk.u64_in _ (by omega)
                have cc1 : IntKind.u64.wrap (n1 : Int) = n1 := IntWalk.u64_in _ (by omega)
                have HN := Lib.hid (show n0 < 18446744073709551616 ∧ n1 < 18446744073709551616 ∧ n2 < 18446744073709551616 by omega)
                have hgz := lt_of_cell e0
                have hba := (Below.refl w99.heap.size w99).alloc (Nat.le_refl _) (.cells #[.int .u32 n0, .int .i64 n1, .int .u64 n2] 86)
                have HWb := Lib.hid (HW.out.below hba)
                have HKs := Lib.hid (Blk.new w99 86 #[.int .u32 n0, .int .i64 n1, .int .u64 n2])
                have HEb := Lib.hid (HE.out.trans (Ext.of_below (· = a) hba))
                have Hns := Lib.hid (show w99.heap.size ≠ a by have := HW.out.lt; omega)
                clear hc hd hd1 hd2 hba
                have hK := HKs.out
                have m0 := hK.cell 0
                have m1 := hK.cell 1
                have m2 := hK.cell 2
                have hz := hK.lt
                simp only [List.getElem?_toArray, List.getElem?_cons_succ, List.getElem?_cons_zero] at m0 m1 m2
                clear hK
                go_wp2_with fail
                generalize w99.alloc (.cells #[.int .u32 n0, .int .i64 n1, .int .u64 n2] 86) = V at *
                generalize w99.heap.size = vz at *
                have HV0 := Lib.hid (Ext.refl (· = a) V)
                refine (wr_Any HWb.out HN.out.1 (by have := Hl.out; omega)).mono ?_
                rintro _ u1 ⟨rfl, hw1, hE1⟩
                have HW1 := Lib.hid hw1
                have HV1 := Lib.hid hE1
                clear hw1 hE1 m0 m1 m2 hz
                have hK := (HKs.out.ext HV1.out Hns.out)
                have m0 := hK.cell 0
                have m1 := hK.cell 1
                have m2 := hK.cell 2
                have hz := hK.lt
                simp only [List.getElem?_toArray, List.getElem?_cons_succ, List.getElem?_cons_zero] at m0 m1 m2
                clear hK
                have L0 := Lib.hid (Lib.uvarint_length64 HN.out.1)
                have L1 := Lib.hid (Lib.uvarint_length64 HN.out.2.1)
                go_wp2_with fail
                refine (wr_Any HW1.out HN.out.2.1 (by have := Hl.out; have := L0.out; rw [List.length_append]; omega)).mono ?_
                rintro _ u2 ⟨rfl, hw1, hE1⟩
                have HW2 := Lib.hid hw1
                have HV2 := Lib.hid (HV1.out.trans hE1)
                clear hw1 hE1 m0 m1 m2 hz
                have hK := (HKs.out.ext HV2.out Hns.out)
                have m0 := hK.cell 0
                have m1 := hK.cell 1
                have m2 := hK.cell 2
                have hz := hK.lt
                simp only [List.getElem?_toArray, List.getElem?_cons_succ, List.getElem?_cons_zero] at m0 m1 m2
                clear hK
                go_wp2_with fail
                refine (wr_Any HW2.out HN.out.2.2 (by have := Hl.out; have := L0.out; have := L1.out; simp only [List.length_append] at *; omega)).mono ?_
                rintro _ u3 ⟨rfl, hw1, hE1⟩
                have HWn := Lib.hid (show WrAny u3 a (b9 ++ (seats.take k).flatMap stBytes ++ stBytes ⟨n0, n1, n2⟩) from by unfold stBytes; simp only [Int.toNat_natCast, ← List.append_assoc]; exact hw1)
                have HEn := Lib.hid (HEb.out.trans (HV2.out.trans hE1))
                clear hw1 hE1 HW1 HW2 HV1 HV2 HEb HWb HE e0 e1 e2 m0 m1 m2 hz
                have HWf := Lib.hid (show WrAny _ a (b9 ++ (seats.take (k + 1)).flatMap stBytes) from by rw [Htk.out, List.flatMap_append, List.flatMap_cons, List.flatMap_nil, List.append_nil, ← List.append_assoc]; exact HWn.out)
                clear HWn HW
                have hll := Hlen.out
                go_wp2_with fail
                go_roundw
                case rel => exact ⟨k + 1, by omega, by go_num, Lib.hid ⟨HWf.out, HEn.out⟩⟩
                case measure => simp [intOf]; omega
              · obtain rfl : k = seats.length := by omega
                have hx := hR.out.1
                rw [List.take_length] at hx
                have hln := Hfs.out seats.length
                rw [List.take_length] at hln
                obtain ⟨b10, hb10⟩ : ∃ x, b9 ++ seats.flatMap stBytes = x := ⟨_, rfl⟩
                rw [hb10] at hx
                have HW10 := Lib.hid hx
                have HE10 := Lib.hid hR.out.2
                have Hl10 := Lib.hid (show b10.length ≤ 403600 from by have h0 := Hl9.out; rw [← hb10, List.length_append]; omega)
                have Hb10 := Lib.hid hb10
                clear hx hln hb10 hR HW9 HE9
                have hK := (HK4.out.ext HE10.out Hne.out)
                have m0 := hK.cell 0
                have m1 := hK.cell 1
                have m2 := hK.cell 2
                have m3 := hK.cell 3
                have m4 := hK.cell 4
                have m5 := hK.cell 5
                have m6 := hK.cell 6
                have hz := hK.lt
                simp only [List.getElem?_toArray, List.getElem?_cons_succ, List.getElem?_cons_zero] at m0 m1 m2 m3 m4 m5 m6
                clear hK
                go_wp2_with fail
                refine (wr_OutAny HW10.out (by have := Hl10.out; omega)).mono ?_
                rintro _ w11 ⟨q', d', rfl, ho, hb⟩
                have e : b10 = bs := by
                  rw [← Hb10.out, ← Hb9.out, ← Hb8.out, ← Hb7.out, ← Hb6.out, ← Hb5.out, ← Hb4.out, ← Hb3.out, ← Hb2.out, ← Hb1.out, ← Hbs.out]
                  rfl
                subst e
                have HBx := Lib.hid (Ext.from HB3.out HE10.out (fun j hj => by have := Haw.out; omega))
                have HOw := Lib.hid (ho.base HBx.out.size)
                have HB11 := Lib.hid (HBx.out.trans (hb.mono HBx.out.size))
                clear ho hb
                go_wp2_with fail
                go_ret2
                exact ⟨q', d', fun _ => ⟨rfl, HOw.out⟩, fun h => (by cases h), HB11.out⟩
end Go.Proofs.YtciojggkcmdjiaaDoor
