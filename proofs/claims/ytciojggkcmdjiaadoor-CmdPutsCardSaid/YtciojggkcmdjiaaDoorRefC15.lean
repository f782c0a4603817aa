/-
  copybookref15.MayCmd, copybookref15.PutCmd, copybookref15.WriteOp: their contracts.
-/
import Derived.Test.YtciojggkcmdjiaaDoorAnM15
namespace Go.Proofs.YtciojggkcmdjiaaDoor
open Go.RowKit
set_option linter.unusedSimpArgs false
set_option linter.unusedVariables false

set_option maxHeartbeats 6400000 in
set_option maxRecDepth 100000 in
theorem ref15_MayCmd {w : World} {S : Nat → Prop} {p : Option Addr} {c : Nat} {kind doc rev pos : Int} {name : List UInt8} {us : List Ut} (h : UtsRd w S (.slice p us.length c) us) (hl : us.length ≤ 1000000) (hn : name.length ≤ 1000000) :
    Calls Tryd.prog 32 #[.agg #[.int .i64 kind, .int .u32 doc, .string ⟨name.toArray⟩, .int .u64 rev, .int .i64 pos, .slice p us.length c]] w fun x w' => x = .returned (.bool (mayCm ⟨kind, doc, name, rev, pos, us⟩)) ∧ Below w.heap.size w w' := by
  obtain ⟨r, hr⟩ : ∃ x, mayCm ⟨kind, doc, name, rev, pos, us⟩ = x := ⟨_, rfl⟩
  rw [hr]
  have Hr := Lib.hid (show r = (decide (1 ≤ kind) && (decide (kind ≤ 9) && (decide (name.length ≤ 64) && (decide (decB name = 0) && (decide (rev ≤ 1099511627776) && (farB pos && rowB us)))))) from hr.symm)
  have hb := (Below.refl w.heap.size w).alloc (Nat.le_refl _) (.cells #[.int .i64 kind, .int .u32 doc, .string ⟨name.toArray⟩, .int .u64 rev, .int .i64 pos, .slice p us.length c] 26)
  have H := Lib.hid (h.below hb)
  have HK := Lib.hid (Blk.new w 26 #[.int .i64 kind, .int .u32 doc, .string ⟨name.toArray⟩, .int .u64 rev, .int .i64 pos, .slice p us.length c])
  have HB := Lib.hid hb
  have es : (ByteArray.mk name.toArray).size = name.length := by simp [ByteArray.size]
  have kc := fun w => run_str w name
  clear hr h hb
  go_enter Tryd.func32, Tryd.ntmps32
  go_wp2_with fail
  clear kc
  rw [show w.heap.size + 1 = (w.alloc (.cells #[.int .i64 kind, .int .u32 doc, .string ⟨name.toArray⟩, .int .u64 rev, .int .i64 pos, .slice p us.length c] 26)).heap.size from (World.size_alloc _ _).symm]
  generalize w.alloc (.cells #[.int .i64 kind, .int .u32 doc, .string ⟨name.toArray⟩, .int .u64 rev, .int .i64 pos, .slice p us.length c] 26) = W1 at *
  have hX := bytesWorld_below W1 ⟨name.toArray⟩
  refine (ref04_Decode (str_rd W1 name (by unfold maxLen; omega)) hn).mono ?_
  rintro _ w2 ⟨⟨s, rfl⟩, hb2⟩
  have hb3 := hX.trans (hb2.mono hX.size)
  have H2 := Lib.hid (H.out.below hb3)
  have HB2 := Lib.hid (HB.out.trans (hb3.mono HB.out.size))
  obtain ⟨m0, m1, m2, m3, m4, m5, -, hz⟩ := (HK.out.below hb3).c6
  obtain ⟨e, he⟩ : ∃ x, decB name = x := ⟨_, rfl⟩
  rw [he]
  have He := Lib.hid he
  clear hX hb2 hb3 H HB HK he
  by_cases k1 : 1 ≤ kind
  · have d1 : decide (kind < 1) = false := by simp; omega
    by_cases k2 : kind ≤ 9
    · have d2 : decide (9 < kind) = false := by simp; omega
      by_cases k3 : name.length ≤ 64
      · have d3 : decide (64 < (name.length : Int)) = false := by simp; omega
        by_cases k4 : e = 0
        · have d4 : (e != (0 : Int)) = false := by simp [k4]
          by_cases k5 : rev ≤ 1099511627776
          · have d5 : decide (rev ≤ 1099511627776) = true := by simpa using k5
            have Hr2 := Lib.hid (show r = (farB pos && rowB us) by rw [Hr.out, decide_eq_true k1, decide_eq_true k2, decide_eq_true k3, He.out, decide_eq_true k4, decide_eq_true k5]; rfl)
            clear k1 k2 k3 k4 k5
            by_cases k6 : 0 ≤ pos
            · have d6 : decide (0 ≤ pos) = true := by simpa using k6
              by_cases k7 : pos ≤ 2147483648
              · have d7 : decide (pos ≤ 2147483648) = true := by simpa using k7
                have Hr3 := Lib.hid (show r = rowB us by rw [Hr2.out]; unfold farB; rw [d6, d7]; rfl)
                clear k6 k7
                go_wp2_with fail
                refine (ref15_Row H2.out hl).mono ?_
                rintro _ w3 ⟨rfl, hb⟩
                have HB3 := Lib.hid (HB2.out.trans (hb.mono HB2.out.size))
                clear hb
                go_wp2_with fail
                go_ret
                exact ⟨by rw [Hr3.out]; rfl, HB3.out⟩
              · have d7 : decide (pos ≤ 2147483648) = false := by simpa using k7
                obtain rfl : r = false := by rw [Hr2.out]; unfold farB; rw [d7]; simp
                clear k6 k7
                go_wp2_with fail
                go_ret
                exact ⟨rfl, HB2.out⟩
            · have d6 : decide (0 ≤ pos) = false := by simpa using k6
              obtain rfl : r = false := by rw [Hr2.out]; unfold farB; rw [d6]; simp
              clear k6
              go_wp2_with fail
              go_ret
              exact ⟨rfl, HB2.out⟩
          · have d5 : decide (rev ≤ 1099511627776) = false := by simpa using k5
            obtain rfl : r = false := by rw [Hr.out, decide_eq_false k5]; simp
            clear k1 k2 k3 k4 k5
            go_wp2_with fail
            go_ret
            exact ⟨rfl, HB2.out⟩
        · have d4 : (e != (0 : Int)) = true := by simpa using k4
          obtain rfl : r = false := by rw [Hr.out, He.out, decide_eq_false k4]; simp
          clear k1 k2 k3 k4
          go_wp2_with fail
          go_ret
          exact ⟨rfl, HB2.out⟩
      · have d3 : decide (64 < (name.length : Int)) = true := by simp; omega
        obtain rfl : r = false := by rw [Hr.out, decide_eq_false k3]; simp
        clear k1 k2 k3
        go_wp2_with fail
        go_ret
        exact ⟨rfl, HB2.out⟩
    · have d2 : decide (9 < kind) = true := by simp; omega
      obtain rfl : r = false := by rw [Hr.out, decide_eq_false k2]; simp
      clear k1 k2
      go_wp2_with fail
      go_ret
      exact ⟨rfl, HB2.out⟩
  · have d1 : decide (kind < 1) = true := by simp; omega
    obtain rfl : r = false := by rw [Hr.out, decide_eq_false k1]; simp
    clear k1
    go_wp2_with fail
    go_ret
    exact ⟨rfl, HB2.out⟩

theorem OutB.bytes {w0 w : World} {T : Nat → Prop} {v u : Value} {l b : List UInt8} {K : Nat} (h : OutB w0 w v l K) (hr : CmdRd w T u b) (hnil2 : NilOk u) (hb : b.length ≤ 1000) (hK : K ≤ 100000000) :
    Calls Tryd.prog 34 #[v, u] w fun e w' => ∃ v', e = .returned v' ∧ OutB w0 w' v' (l ++ lenBytes b) (K + 1010) ∧ Below w.heap.size w w' := by
  refine (ref_Bytes (CmdOwn.rd h.own) (NilOk.own h.own) hr hnil2 (by have := h.len; omega)).mono ?_
  rintro e w' ⟨v', rfl, ho, hb2⟩
  refine ⟨v', rfl, ⟨CmdOwn.base ho h.below.size, h.below.trans (hb2.mono h.below.size), ?_⟩, hb2⟩
  have h1 := h.len
  have h2 := Lib.uvarint_length64 (show b.length < 18446744073709551616 by omega)
  unfold lenBytes
  simp only [List.length_append]
  omega
theorem own_cmd_slice {w : World} {b : Nat} {v : Value} {bs : List UInt8} (h : CmdOwn w b v bs) : ∃ p c, v = .slice p bs.length c := own_slice h
set_option maxHeartbeats 6400000 in
set_option maxRecDepth 100000 in
theorem ref15_PutCmd {w : World} {S : Nat → Prop} {p : Option Addr} {c : Nat} {kind doc rev pos : Int} {name : List UInt8} {us : List Ut} (h : UtsRd w S (.slice p us.length c) us) (hl : us.length ≤ 1000000) (hn : name.length ≤ 1000000) (hw : WfC ⟨kind, doc, name, rev, pos, us⟩) {r : Bool} (hr : mayCm ⟨kind, doc, name, rev, pos, us⟩ = r) :
    Calls Tryd.prog 11 #[.agg #[.int .i64 kind, .int .u32 doc, .string ⟨name.toArray⟩, .int .u64 rev, .int .i64 pos, .slice p us.length c]] w fun x w' => PutR w w' (cmBytes ⟨kind, doc, name, rev, pos, us⟩) r x := by
  have hb := (Below.refl w.heap.size w).alloc (Nat.le_refl _) (.cells #[.int .i64 kind, .int .u32 doc, .string ⟨name.toArray⟩, .int .u64 rev, .int .i64 pos, .slice p us.length c] 26)
  have H := Lib.hid (h.below hb)
  have HK := Lib.hid (Blk.new w 26 #[.int .i64 kind, .int .u32 doc, .string ⟨name.toArray⟩, .int .u64 rev, .int .i64 pos, .slice p us.length c])
  have HB := Lib.hid hb
  have Hw := Lib.hid hw
  have Hr := Lib.hid hr
  obtain ⟨bs, hbs⟩ : ∃ x, cmBytes ⟨kind, doc, name, rev, pos, us⟩ = x := ⟨_, rfl⟩
  rw [hbs]
  have Hbs := Lib.hid hbs
  have Hn := Lib.hid hn
  have Hl := Lib.hid hl
  clear h hb hw hbs hr hn hl
  go_enter Tryd.func11, Tryd.ntmps11
  go_wp2_with fail
  generalize w.alloc (.cells #[.int .i64 kind, .int .u32 doc, .string ⟨name.toArray⟩, .int .u64 rev, .int .i64 pos, .slice p us.length c] 26) = W1 at *
  refine (ref15_MayCmd H.out Hl.out Hn.out).mono ?_
  rw [Hr.out]
  rintro _ w2 ⟨rfl, hb2⟩
  have H2 := Lib.hid (H.out.below hb2)
  have HK2 := Lib.hid (HK.out.below hb2)
  have HB2 := Lib.hid (HB.out.trans (hb2.mono HB.out.size))
  clear hb2 H HK HB
  cases r with
  | false =>
    go_wp2_with fail
    go_ret2
    exact ⟨none, 0, fun h => (by cases h), fun _ => rfl, HB2.out⟩
  | true =>
    obtain ⟨⟨k1, k2⟩, k3, -, k5, ⟨k6, k7⟩, -, k8, k9⟩ := mayCm_ok Hr.out Hw.out
    simp only at k1 k2 k3 k5 k6 k7 k8 k9
    have hwd := Hw.out.doc
    have hwr := Hw.out.rev
    simp only at hwd hwr
    obtain ⟨kn, rfl⟩ := Int.eq_ofNat_of_zero_le (show 0 ≤ kind by omega)
    obtain ⟨dn, rfl⟩ := Int.eq_ofNat_of_zero_le hwd.1
    obtain ⟨rn, rfl⟩ := Int.eq_ofNat_of_zero_le hwr
    obtain ⟨pn, rfl⟩ := Int.eq_ofNat_of_zero_le k6
    have c1 : IntKind.u64.wrap (kn : Int) = kn := IntWalk.u64_in _ (by omega)
    have c2 : IntKind.u64.wrap (dn : Int) = dn := IntWalk.u64_in _ (by omega)
    have c3 : IntKind.u64.wrap (pn : Int) = pn := IntWalk.u64_in _ (by omega)
    have Hkn := Lib.hid (show kn < 18446744073709551616 by omega)
    have Hdn := Lib.hid (show dn < 18446744073709551616 by omega)
    have Hrn := Lib.hid (show rn < 18446744073709551616 by omega)
    have Hpn := Lib.hid (show pn < 18446744073709551616 by omega)
    have Hk3 := Lib.hid k3
    have Hok := Lib.hid k9
    clear k1 k2 k3 k5 k6 k7 k8 k9 hwd hwr Hr Hw
    have HO0 := Lib.hid (OutB.start w2)
    have HC0 := Lib.hid (Below.refl w2.heap.size w2)
    obtain ⟨m0, m1, m2, m3, m4, m5, -, hz⟩ := HK2.out.c6
    go_wp2_with fail
    refine (HO0.out.put Hkn.out (by omega)).mono ?_
    rintro _ w3 ⟨v3, rfl, ho, hb⟩
    have HO1 := Lib.hid ho
    have HC1 := Lib.hid (HC0.out.trans (hb.mono HC0.out.size))
    have hK := HK2.out.below HC1.out
    clear ho hb HO0 HC0 m0 m1 m2 m3 m4 m5 hz
    obtain ⟨m0, m1, m2, m3, m4, m5, -, hz⟩ := hK.c6
    clear hK
    go_wp2_with fail
    refine (HO1.out.put Hdn.out (by omega)).mono ?_
    rintro _ w4 ⟨v4, rfl, ho, hb⟩
    have HO2 := Lib.hid ho
    have HC2 := Lib.hid (HC1.out.trans (hb.mono HC1.out.size))
    have hK := HK2.out.below HC2.out
    clear ho hb HO1 HC1 m0 m1 m2 m3 m4 m5 hz
    obtain ⟨m0, m1, m2, m3, m4, m5, -, hz⟩ := hK.c6
    clear hK
    have kc := fun w => run_str w name
    go_wp2_with fail
    clear kc
    have hX := bytesWorld_below w4 ⟨name.toArray⟩
    have HO2b := Lib.hid (HO2.out.next hX)
    have HC2b := Lib.hid (HC2.out.trans (hX.mono HC2.out.size))
    have HRd := Lib.hid (str_rd w4 name (by have := Hk3.out; unfold maxLen; omega))
    clear hX HO2 HC2 m0 m1 m2 m3 m4 m5 hz
    refine (HO2b.out.bytes HRd.out NilOk.some (by have := Hk3.out; omega) (by omega)).mono ?_
    rintro _ w5 ⟨v5, rfl, ho, hb⟩
    have HO3 := Lib.hid ho
    have HC3 := Lib.hid (HC2b.out.trans (hb.mono HC2b.out.size))
    have hK := HK2.out.below HC3.out
    clear ho hb HO2b HC2b HRd
    obtain ⟨m0, m1, m2, m3, m4, m5, -, hz⟩ := hK.c6
    clear hK
    go_wp2_with fail
    refine (HO3.out.put Hrn.out (by omega)).mono ?_
    rintro _ w6 ⟨v6, rfl, ho, hb⟩
    have HO4 := Lib.hid ho
    have HC4 := Lib.hid (HC3.out.trans (hb.mono HC3.out.size))
    have hK := HK2.out.below HC4.out
    clear ho hb HO3 HC3 m0 m1 m2 m3 m4 m5 hz
    obtain ⟨m0, m1, m2, m3, m4, m5, -, hz⟩ := hK.c6
    clear hK
    go_wp2_with fail
    refine (HO4.out.put Hpn.out (by omega)).mono ?_
    rintro _ w7 ⟨v7, rfl, ho, hb⟩
    have HO5 := Lib.hid ho
    have HC5 := Lib.hid (HC4.out.trans (hb.mono HC4.out.size))
    have hK := HK2.out.below HC5.out
    clear ho hb HO4 HC4 m0 m1 m2 m3 m4 m5 hz
    obtain ⟨m0, m1, m2, m3, m4, m5, -, hz⟩ := hK.c6
    clear hK
    have HU := Lib.hid (H2.out.below HC5.out)
    go_wp2_with fail
    refine (HO5.out.write HU.out Hok.out Hl.out (by omega)).mono ?_
    rintro _ w8 ⟨v8, rfl, ho, hb⟩
    have hfin := ho.own
    have HC6 := Lib.hid (HC5.out.trans (hb.mono HC5.out.size))
    clear ho hb HO5 HC5 m0 m1 m2 m3 m4 m5 hz HU
    have e : [] ++ Lib.uvarint kn ++ Lib.uvarint dn ++ lenBytes name ++ Lib.uvarint rn ++ Lib.uvarint pn ++ rowBytes us = bs := by
      rw [← Hbs.out]
      rfl
    rw [e] at hfin
    obtain ⟨q, d, rfl⟩ := own_cmd_slice hfin
    have HO := Lib.hid (CmdOwn.base hfin HB2.out.size)
    have HBf := Lib.hid (HB2.out.trans (HC6.out.mono HB2.out.size))
    clear hfin e HC6
    go_wp2_with fail
    go_ret2
    exact ⟨q, d, fun _ => ⟨rfl, HO.out⟩, fun h => (by cases h), HBf.out⟩
set_option maxHeartbeats 3200000 in
theorem OutB.op {w0 w : World} {S : Nat → Prop} {v : Value} {l : List UInt8} {o : Opr} {p : Option Addr} {k K : Nat} (ho : OutB w0 w v l K) (h : UtsRd w S (.slice p o.us.length k) o.us) (hw : WfO o) (hr : rowB o.us = true) (hK : K ≤ 9000000) :
    Calls Tryd.prog 41 #[v, .agg #[.int .u32 o.cl, .int .u64 o.rq, .slice p o.us.length k, .bool o.un]] w fun e w' => ∃ v', e = .returned v' ∧ OutB w0 w' v' (l ++ oprBytes o) (K + 20000) ∧ Below w.heap.size w w' := by
  obtain ⟨cl, rq, us, un⟩ := o
  simp only at h hr
  have hcl := hw.cl
  have hrq := hw.rq
  have hfew := hw.few
  simp only at hcl hrq hfew
  obtain ⟨n0, rfl⟩ := Int.eq_ofNat_of_zero_le hcl.1
  obtain ⟨n1, rfl⟩ := Int.eq_ofNat_of_zero_le hrq.1
  have hba := (Below.refl w.heap.size w).alloc (Nat.le_refl _) (.cells #[.int .u32 n0, .int .u64 n1, .slice p us.length k, .bool un] 46)
  have HK := Lib.hid (Blk.new w 46 #[.int .u32 n0, .int .u64 n1, .slice p us.length k, .bool un])
  have HO0 := Lib.hid (ho.next hba)
  have HC0 := Lib.hid hba
  have H := Lib.hid (h.below hba)
  have Hok := Lib.hid (hw.ok hr)
  have H0 := Lib.hid (show n0 < 18446744073709551616 by omega)
  have H1 := Lib.hid (show n1 < 18446744073709551616 by omega)
  have H2 := Lib.hid hfew
  have Hbs := Lib.hid (show l ++ Lib.uvarint n0 ++ Lib.uvarint n1 ++ Lib.uvarint un.toNat ++ rowBytes us = l ++ oprBytes ⟨n0, n1, us, un⟩ by simp [oprBytes, List.append_assoc])
  have c1 : IntKind.u64.wrap (n0 : Int) = n0 := IntWalk.u64_in _ (by omega)
  clear ho h hw hr hcl hrq hfew hba
  go_enter Tryd.func41, Tryd.ntmps41
  have hK := HK.out
  have m0 := hK.cell 0
  have m1 := hK.cell 1
  have m2 := hK.cell 2
  have m3 := hK.cell 3
  have hz := hK.lt
  simp only [List.getElem?_toArray, List.getElem?_cons_succ, List.getElem?_cons_zero] at m0 m1 m2 m3
  clear hK
  go_wp2_with fail
  generalize w.alloc (.cells #[.int .u32 n0, .int .u64 n1, .slice p us.length k, .bool un] 46) = W1 at *
  refine (HO0.out.put H0.out (by omega)).mono ?_
  rintro _ w2 ⟨v2, rfl, ho, hb⟩
  have HO1 := Lib.hid ho
  have hb1 := hb.mono HC0.out.size
  have HK1 := Lib.hid (HK.out.below hb)
  have HU1 := Lib.hid (H.out.below hb)
  have HC1 := Lib.hid (HC0.out.trans hb1)
  clear ho hb hb1 HO0 HC0 HK H m0 m1 m2 m3 hz
  have hK := HK1.out
  have m0 := hK.cell 0
  have m1 := hK.cell 1
  have m2 := hK.cell 2
  have m3 := hK.cell 3
  have hz := hK.lt
  simp only [List.getElem?_toArray, List.getElem?_cons_succ, List.getElem?_cons_zero] at m0 m1 m2 m3
  clear hK
  go_wp2_with fail
  refine (HO1.out.put H1.out (by omega)).mono ?_
  rintro _ w3 ⟨v3, rfl, ho, hb⟩
  have HO2 := Lib.hid ho
  have hb1 := hb.mono HC1.out.size
  have HK2 := Lib.hid (HK1.out.below hb)
  have HU2 := Lib.hid (HU1.out.below hb)
  have HC2 := Lib.hid (HC1.out.trans hb1)
  clear ho hb hb1 HO1 HC1 HK1 HU1 m0 m1 m2 m3 hz
  have hK := HK2.out
  have m0 := hK.cell 0
  have m1 := hK.cell 1
  have m2 := hK.cell 2
  have m3 := hK.cell 3
  have hz := hK.lt
  simp only [List.getElem?_toArray, List.getElem?_cons_succ, List.getElem?_cons_zero] at m0 m1 m2 m3
  clear hK
  go_wp2_with fail
  refine ref_Bool.mono ?_
  rintro _ _ ⟨rfl, rfl⟩
  go_wp2_with fail
  refine (HO2.out.put (n := un.toNat) (by cases un <;> decide) (by omega)).mono ?_
  rintro _ w4 ⟨v4, rfl, ho, hb⟩
  have HO3 := Lib.hid ho
  have hb1 := hb.mono HC2.out.size
  have HK3 := Lib.hid (HK2.out.below hb)
  have HU3 := Lib.hid (HU2.out.below hb)
  have HC3 := Lib.hid (HC2.out.trans hb1)
  clear ho hb hb1 HO2 HC2 HK2 HU2 m0 m1 m2 m3 hz
  have hK := HK3.out
  have m0 := hK.cell 0
  have m1 := hK.cell 1
  have m2 := hK.cell 2
  have m3 := hK.cell 3
  have hz := hK.lt
  simp only [List.getElem?_toArray, List.getElem?_cons_succ, List.getElem?_cons_zero] at m0 m1 m2 m3
  clear hK
  go_wp2_with fail
  refine (HO3.out.write HU3.out Hok.out (by have := H2.out; omega) (by omega)).mono ?_
  rintro _ w5 ⟨v5, rfl, ho, hb⟩
  rw [Hbs.out] at ho
  have HO4 := Lib.hid (ho.more (show _ ≤ K + 20000 by have := H2.out; omega))
  have HC4 := Lib.hid (HC3.out.trans (hb.mono HC3.out.size))
  clear ho hb HO3 HC3 m0 m1 m2 m3 hz
  go_wp2_with fail
  go_ret
  exact ⟨_, rfl, HO4.out, HC4.out⟩
end Go.Proofs.YtciojggkcmdjiaaDoor
