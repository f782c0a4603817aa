/-
  ChangeOrder: the walk, le. Condition: the packs can be read. (Printed by wip/gen_order22.py le.)
-/
import Derived.Test.YtgmekodfkhihiaaOrderS22
namespace Go.Proofs.Ytgmekodfkhihiaa
open Go.RowKit Go.Maps
set_option linter.unusedSimpArgs false
set_option linter.unusedVariables false

set_option maxHeartbeats 12800000 in
set_option maxRecDepth 100000 in
theorem order_le {w : World} {T : Nat → Prop} {v : Int} {p : Option Addr} {d n : Nat} {L : List Pk} (hr : PacksRd w T (.slice p L.length d) L) (hL : PksOk L) (hT : ∀ j, T j → j < w.heap.size) (hv0 : 0 ≤ v) (hv1 : v < 18446744073709551616) (hn : min L.length 7 = n) (hc : L.length ≤ 7) (hLb : L.length ≤ 1152921504606846976) :
    Calls Try.prog 4 #[.slice p L.length d, .int .u64 v] w fun x w' => x = .returned (.bool true) ∧ Below w.heap.size w w' := by
  have hn7 : n ≤ 7 := by omega
  have hnL : n ≤ L.length := by omega
  have hmin : min (L.length : Int) 7 = (n : Int) := by omega
  have HR := Lib.hid hr
  have HL := Lib.hid hL
  have HT := Lib.hid hT
  have Hn := Lib.hid hn
  clear hr hL hT hn
  go_enter Try.func4, Try.ntmps4
  go_wp2_with fail
  refine (ch_New ok73).mono ?_
  rintro x W1 ⟨ca, va, ga, rfl, hC, h1, h2, h3, hb⟩
  have HC1 := Lib.hid hC
  have HB1 := Lib.hid hb
  have HG1 := Lib.hid (And.intro h1 (And.intro h2 h3))
  clear hC hb h1 h2 h3
  go_wp2_with fail
  refine (ch_New ok73).mono ?_
  rintro x W2 ⟨cb, vb, gb, rfl, hC, h1, h2, h3, hb⟩
  have HO2 := Lib.hid (show OS w W2 T (fun _ => False) (fun _ => False) ca va ga cb vb gb 0 no7 no7 no7 (List.replicate 7 noPk) (List.replicate 7 noPk) (.slice p L.length d) L from by
    have q := HC1.out.lt
    have z := HB1.out.size
    obtain ⟨g1, g2, g3⟩ := HG1.out
    have hbb := HB1.out.trans (hb.mono z)
    exact ⟨hbb, HR.out.keep (fun k hk _ => hbb.block k hk) (fun _ h _ => h), HC1.out.below hb, hC, by omega, by omega, ⟨fun h => h, fun h => h⟩, ⟨fun h => h, fun h => h⟩, fun _ h => h.elim, fun _ h => h.elim, HT.out⟩)
  clear hC hb h1 h2 h3 HC1 HB1 HG1 HR HT
  go_wp2_with fail
  refine (ch_Start (vn := v) HO2.out.a hv0 hv1 hv0).mono ?_
  rintro x W3 ⟨rfl, hC, hE⟩
  rw [newT_no] at hC
  have HC3 := Lib.hid hC
  have HE3 := Lib.hid hE
  clear hC hE
  have HP := Lib.hid (show ChAt W3 (fun _ => False) cb vb gb 7 3 0 no7 no7 (List.replicate 7 noPk) from HO2.out.b.ext HE3.out (fun _ h => h.elim) (fun e => by have := HO2.out.f; omega) (fun e => by have := HO2.out.f; omega) (fun e => by have := HO2.out.f; omega))
  go_wp2_with fail
  refine (ch_Start (vn := v) HP.out hv0 hv1 hv0).mono ?_
  rintro x W4 ⟨rfl, hC, hE⟩
  rw [newT_no] at hC
  have HO4 := Lib.hid (show OS w W4 T (fun _ => False) (fun _ => False) ca va ga cb vb gb v no7 no7 no7 (List.replicate 7 noPk) (List.replicate 7 noPk) (.slice p L.length d) L from by
    have r3 := HO2.out.readA HE3.out
    have r4 : PacksRd W4 T (.slice p L.length d) L := r3.keep (fun k hk hT => hE.block k hk (fun e => by have := HO2.out.T k hT; have := HO2.out.g; omega)) (fun _ h _ => h)
    have b3 := Ext.from HO2.out.bl HE3.out (fun j hj => by have := HO2.out.g; omega)
    exact ⟨Ext.from b3 hE (fun j hj => by have := HO2.out.g; omega), r4, HC3.out.ext hE (fun _ h => h.elim) (fun e => by have := HO2.out.f; omega) (fun e => by have := HO2.out.f; omega) (fun e => by have := HO2.out.f; omega), hC, HO2.out.g, HO2.out.f, HO2.out.na, HO2.out.nb, fun _ h => h.elim, fun _ h => h.elim, HO2.out.T⟩)
  clear hC hE HC3 HE3 HP HO2
  go_wp2_with fail

  rw [show Value.int IntKind.i64 (L.length : Int) = Value.int IntKind.i64 (n : Int) from by rw [show (L.length : Int) = (n : Int) by omega]]
  clear hmin hc
  go_loopw [10, 11, 12] (fun en tk iv wr => ∃ i : Nat, i ≤ n ∧ iv = .int .i64 i ∧ en = .int .i64 (once 4 (hAt L 0 i)) ∧ tk = .int .i64 (once 3 (tAt i)) ∧ Hid (∃ Sa Sb, OS w wr T Sa Sb ca va ga cb vb gb v (tAt i) (hAt L 0 i) (hAt L (n - i) n) (pAt L 0 i) (pAt L (n - i) n) (.slice p L.length d) L)) (fun _ _ iv _ => n - (intOf iv).toNat)
  case atStart =>
    refine ⟨0, Nat.zero_le _, rfl, ?_, ?_, Lib.hid ⟨fun _ => False, fun _ => False, ?_⟩⟩
    · rw [hAt_none]; rfl
    · rw [tAt_0]; rfl
    · rw [hAt_none, Nat.sub_zero, hAt_none, pAt_none, pAt_none, tAt_0]
      exact HO4.out
  case round =>
    obtain ⟨i, hi, rfl, rfl, rfl, HR⟩ := hrel
    obtain ⟨Sa, Sb, ho⟩ := HR.out
    have HO := Lib.hid ho
    clear ho HR HO4
    by_cases hlt : i < n

    · obtain ⟨k, hk⟩ : ∃ k, k + i + 1 = n := ⟨n - 1 - i, by omega⟩
      have hkv : (n : Int) - 1 - (i : Int) = (k : Int) := by omega
      have hki : n - i = k + 1 := by omega
      have hkj : n - (i + 1) = k := by omega
      have hiL : i < L.length := by omega
      have hkL : k < L.length := by omega
      obtain ⟨bk, off, rfl⟩ := packs_ptr HO.out.r (by omega)
      obtain ⟨P1, hP1⟩ : ∃ q, L.getD i noPk = q := ⟨_, rfl⟩
      obtain ⟨P2, hP2⟩ : ∃ q, L.getD k noPk = q := ⟨_, rfl⟩
      obtain ⟨m1, hm1⟩ : ∃ m, mayP P1 = m := ⟨_, rfl⟩
      obtain ⟨m2, hm2⟩ : ∃ m, mayP P2 = m := ⟨_, rfl⟩
      obtain ⟨ha', hha⟩ : ∃ x, hAt L 0 (i + 1) = x := ⟨_, rfl⟩
      obtain ⟨pa', hpa⟩ : ∃ x, pAt L 0 (i + 1) = x := ⟨_, rfl⟩
      obtain ⟨hb', hhb⟩ : ∃ x, hAt L k n = x := ⟨_, rfl⟩
      obtain ⟨pb', hpb⟩ : ∃ x, pAt L k n = x := ⟨_, rfl⟩
      have Sha := Lib.hid (show setM m1 (hAt L 0 i) i true = ha' from by rw [← hm1, ← hP1, ← hha]; exact hAt_up (Nat.zero_le _))
      have Spa := Lib.hid (show setM m1 (pAt L 0 i) i ⟨P1.l, P1.b, P1.c, P1.es⟩ = pa' from by rw [← hm1, ← hpa, ← hP1]; exact pAt_up (Nat.zero_le _))
      have Shb := Lib.hid (show setM m2 (hAt L (n - i) n) k true = hb' from by rw [← hm2, ← hP2, ← hhb, hki]; exact hAt_dn (by omega))
      have Spb := Lib.hid (show setM m2 (pAt L (n - i) n) k ⟨P2.l, P2.b, P2.c, P2.es⟩ = pb' from by rw [← hm2, ← hpb, ← hP2, hki]; exact pAt_dn (by omega))
      have Hha := Lib.hid hha
      have Hpa := Lib.hid hpa
      have Hhb := Lib.hid hhb
      have Hpb := Lib.hid hpb
      have Hm1 := Lib.hid hm1
      have Hm2 := Lib.hid hm2
      have Hon := Lib.hid (once4_step (hAt_len L 0 i) (by omega) Sha.out)
      have hi7 : i < 7 := by omega
      have hk7 : k < 7 := by omega
      obtain ⟨xv, hxv⟩ : ∃ x, justB (hAt L 0 i) ha' (7 / 2 + 1) = x := ⟨_, rfl⟩
      obtain ⟨yv, hyv⟩ : ∃ x, justB (hAt L (n - i) n) hb' (7 / 2 + 1) = x := ⟨_, rfl⟩
      have Hxv := Lib.hid hxv
      have Hyv := Lib.hid hyv
      have HP1 := Lib.hid hP1
      have HP2 := Lib.hid hP2
      clear hha hpa hhb hpb hm1 hm2 hxv hyv hP1 hP2
      obtain ⟨sp, sc, e0, e1, e2, e3, hq⟩ := packs_at HO.out.r HP1.out hiL
      have HQ := Lib.hid hq
      clear hq
      go_wp2_with fail
      have hpk := pk_ok HP1.out HL.out
      have hlt1 : ∀ j, T j → j < wr.heap.size := fun j hj => Nat.lt_of_lt_of_le (HO.out.T j hj) HO.out.bl.size
      have hg1 : ¬ T ga := fun hg => Nat.not_lt_of_le HO.out.g.2.1 (HO.out.T _ hg)
      have hk71 : (i : Int) < 7 := by omega
      have HH := Lib.hid (ch_HandAny (k := i) (m := m1) (h' := ha') (ps' := pa') (l := P1.l) (b := P1.b) (c := P1.c) HO.out.a ok73 hk71 HQ.out hpk.1 hlt1 hg1 HO.out.sa Hm1.out hpk.2.2.1 hpk.2.1 Sha.out Spa.out)
      clear hpk hlt1 hg1 hk71
      refine HH.out.mono ?_
      clear HH
      rw [Hxv.out]
      rintro x V1 ⟨rfl, hC, hE⟩
      generalize hSa : More Sa wr V1 = Sa1 at hC
      have HO1 := Lib.hid (HO.out.stepA hC hE (by rw [← hSa]; exact more_or) (by rw [← hSa]; exact more_sz hE.size))
      clear hC hE hSa HO HQ e0 e1 e2 e3
      obtain ⟨sp, sc, e0, e1, e2, e3, hq⟩ := packs_at HO1.out.r HP2.out hkL
      have HQ := Lib.hid hq
      clear hq
      go_wp2_with fail
      have hpk := pk_ok HP2.out HL.out
      have hlt1 : ∀ j, T j → j < V1.heap.size := fun j hj => Nat.lt_of_lt_of_le (HO1.out.T j hj) HO1.out.bl.size
      have hg1 : ¬ T gb := fun hg => Nat.not_lt_of_le HO1.out.g.2.2.2 (HO1.out.T _ hg)
      have hk71 : (k : Int) < 7 := by omega
      have HH := Lib.hid (ch_HandAny (k := k) (m := m2) (h' := hb') (ps' := pb') (l := P2.l) (b := P2.b) (c := P2.c) HO1.out.b ok73 hk71 HQ.out hpk.1 hlt1 hg1 HO1.out.sb Hm2.out hpk.2.2.1 hpk.2.1 Shb.out Spb.out)
      clear hpk hlt1 hg1 hk71
      refine HH.out.mono ?_
      clear HH
      rw [Hyv.out]
      rintro x V2 ⟨rfl, hC, hE⟩
      generalize hSb : More Sb V1 V2 = Sb1 at hC
      have HO2 := Lib.hid (HO1.out.stepB hC hE (by rw [← hSb]; exact more_or) (by rw [← hSb]; exact more_sz hE.size))
      clear hC hE hSb HO1 HQ e0 e1 e2 e3
      obtain ⟨sp, sc, e0, e1, e2, e3, hq⟩ := packs_at HO2.out.r HP2.out hkL
      have HQ := Lib.hid hq
      clear hq
      have Shb2 := Lib.hid (show setM m2 hb' k true = hb' from by rw [← Shb.out, setM_twice])
      have Spb2 := Lib.hid (show setM m2 pb' k ⟨P2.l, P2.b, P2.c, P2.es⟩ = pb' from by rw [← Spb.out, setM_twice])
      go_wp2_with fail
      have hpk := pk_ok HP2.out HL.out
      have hlt1 : ∀ j, T j → j < V2.heap.size := fun j hj => Nat.lt_of_lt_of_le (HO2.out.T j hj) HO2.out.bl.size
      have hg1 : ¬ T gb := fun hg => Nat.not_lt_of_le HO2.out.g.2.2.2 (HO2.out.T _ hg)
      have hk71 : (k : Int) < 7 := by omega
      have HH := Lib.hid (ch_HandAny (k := k) (m := m2) (h' := hb') (ps' := pb') (l := P2.l) (b := P2.b) (c := P2.c) HO2.out.b ok73 hk71 HQ.out hpk.1 hlt1 hg1 HO2.out.sb Hm2.out hpk.2.2.1 hpk.2.1 Shb2.out Spb2.out)
      clear hpk hlt1 hg1 hk71
      refine HH.out.mono ?_
      clear HH
      rw [justB_self]
      rintro x V3 ⟨rfl, hC, hE⟩
      generalize hSb : More Sb1 V2 V3 = Sb2 at hC
      have HO3 := Lib.hid (HO2.out.stepB hC hE (by rw [← hSb]; exact more_or) (by rw [← hSb]; exact more_sz hE.size))
      clear hC hE hSb HO2 HQ e0 e1 e2 e3
      obtain ⟨sp, sc, e0, e1, e2, e3, hq⟩ := packs_at HO3.out.r HP1.out hiL
      have HQ := Lib.hid hq
      clear hq
      have Hxf := Lib.hid (show m1 = false → xv = false from fun e => by
        have := Sha.out
        rw [e] at this
        rw [← Hxv.out, ← this]
        exact justB_self _ _)
      have Hyf := Lib.hid (show m2 = false → yv = false from fun e => by
        have := Shb.out
        rw [e] at this
        rw [← Hyv.out, ← this]
        exact justB_self _ _)

      have ho1 : 0 ≤ once 4 (hAt L 0 i) ∧ once 4 (hAt L 0 i) ≤ 1 := by have := once_01 4 (hAt L 0 i); omega
      have ho2 : 0 ≤ once 3 (tAt i) ∧ once 3 (tAt i) ≤ 1 := by have := once_01 3 (tAt i); omega
      obtain ⟨ho1a, ho1b⟩ := ho1
      obtain ⟨ho2a, ho2b⟩ := ho2
      rw [Hxv.out] at Hon
      obtain ⟨pv, hpv⟩ : ∃ x, justB (tAt i) (tAt (i + 1)) (7 / 2) = x := ⟨_, rfl⟩
      have Hpv := Lib.hid hpv
      clear hpv
      cases m1 with
      | false =>
        obtain rfl := Hxf.out rfl
        cases m2 with
        | false =>
          obtain rfl := Hyf.out rfl
          simp only [errM_t, errM_f]
          go_wp2_with fail
          refine (pack_May HQ.out (pk_ok HP1.out HL.out).2.1 (pk_ok HP1.out HL.out).2.2.1).mono ?_
          rintro x V4 ⟨rfl, hb⟩
          rw [show mayB P1.l P1.b P1.c P1.es = false from Hm1.out]
          have HO4 := Lib.hid (HO3.out.below hb)
          clear hb HO3 HQ e0 e1 e2 e3
          go_wp2_with fail
          by_cases h3 : i = 3
          · have h3i : (i : Int) = 3 := by omega
            have d3 : ((i : Int) != 3) = false := by simp; omega
            have HO5 := Lib.hid (show OS w V4 T Sa1 Sb2 ca va ga cb vb gb v (tAt (i + 1)) ha' hb' pa' pb' (.slice (some ⟨bk, off, none⟩) L.length d) L from by
              have := HO4.out
              rw [show tAt i = tAt (i + 1) from by rw [h3]; exact tAt_3] at this
              exact this)
            have H3 := Lib.hid h3
            have H3i := Lib.hid h3i
            clear h3 h3i
            refine (ch_Told_arg HO4.out.a (k := i) (vn := v) (.inr (.inr H3i.out))).mono ?_
            rintro x _ ⟨rfl, rfl⟩
            go_wp2_with fail
            refine (ch_Told_arg HO4.out.a (k := i) (vn := v) (.inr (.inr H3i.out))).mono ?_
            rintro x _ ⟨rfl, rfl⟩
            go_wp2_with fail
            go_roundw
            case rel =>
              refine ⟨i + 1, by omega, by go_num, ?_, ?_, Lib.hid ⟨Sa1, Sb2, ?_⟩⟩
              · rw [Hha.out, Hon.out]; simp [bit]
              · rw [H3.out, ← tAt_3]
              · rw [hkj, Hha.out, Hpa.out, Hhb.out, Hpb.out]; exact HO5.out
            case measure => simp [intOf]; omega
          · have h3i : (i : Int) ≠ 3 := by omega
            have d3 : ((i : Int) != 3) = true := by simp; omega
            have H3 := Lib.hid h3
            have H3i := Lib.hid h3i
            clear h3 h3i
            have HT1 := Lib.hid (ch_Told (k := i) (t' := tAt (i + 1)) HO4.out.a ok73 (by omega) H3i.out (tAt_step hi7 H3.out))
            refine HT1.out.mono ?_
            rw [Hpv.out]
            rintro x V5 ⟨rfl, hC, hE⟩
            have HO5 := Lib.hid (HO4.out.stepA hC (ext_r hE) (fun j hj => .inl hj) (fun j hj => Nat.lt_of_lt_of_le (HO4.out.sa j hj) hE.size))
            clear hC hE HT1
            go_wp2_with fail
            have HT2 := Lib.hid (ch_Told (k := i) (t' := tAt (i + 1)) HO5.out.a ok73 (by omega) H3i.out (tAt_again hi7 H3.out))
            refine HT2.out.mono ?_
            rw [justB_self]
            rintro x V6 ⟨rfl, hC, hE⟩
            have HO6 := Lib.hid (HO5.out.stepA hC (ext_r hE) (fun j hj => .inl hj) (fun j hj => Nat.lt_of_lt_of_le (HO5.out.sa j hj) hE.size))
            clear hC hE HT2
            have Htn := Lib.hid (once3_step (tAt_len i) hi7 (tAt_step hi7 H3.out))
            rw [Hpv.out] at Htn
            cases pv with
            | false =>
              go_wp2_with fail
              go_roundw
              case rel =>
                refine ⟨i + 1, by omega, by go_num, ?_, ?_, Lib.hid ⟨Sa1, Sb2, ?_⟩⟩
                · rw [Hha.out, Hon.out]; simp [bit]
                · rw [Htn.out]; simp [bit]
                · rw [hkj, Hha.out, Hpa.out, Hhb.out, Hpb.out]; exact HO6.out
              case measure => simp [intOf]; omega
            | true =>
              go_wp2_with fail
              go_roundw
              case rel =>
                refine ⟨i + 1, by omega, by go_num, ?_, ?_, Lib.hid ⟨Sa1, Sb2, ?_⟩⟩
                · rw [Hha.out, Hon.out]; simp [bit]
                · rw [Htn.out]; simp [bit]
                · rw [hkj, Hha.out, Hpa.out, Hhb.out, Hpb.out]; exact HO6.out
              case measure => simp [intOf]; omega
        | true =>
          simp only [errM_t, errM_f]
          go_wp2_with fail
          refine (pack_May HQ.out (pk_ok HP1.out HL.out).2.1 (pk_ok HP1.out HL.out).2.2.1).mono ?_
          rintro x V4 ⟨rfl, hb⟩
          rw [show mayB P1.l P1.b P1.c P1.es = false from Hm1.out]
          have HO4 := Lib.hid (HO3.out.below hb)
          clear hb HO3 HQ e0 e1 e2 e3
          go_wp2_with fail
          by_cases h3 : i = 3
          · have h3i : (i : Int) = 3 := by omega
            have d3 : ((i : Int) != 3) = false := by simp; omega
            have HO5 := Lib.hid (show OS w V4 T Sa1 Sb2 ca va ga cb vb gb v (tAt (i + 1)) ha' hb' pa' pb' (.slice (some ⟨bk, off, none⟩) L.length d) L from by
              have := HO4.out
              rw [show tAt i = tAt (i + 1) from by rw [h3]; exact tAt_3] at this
              exact this)
            have H3 := Lib.hid h3
            have H3i := Lib.hid h3i
            clear h3 h3i
            refine (ch_Told_arg HO4.out.a (k := i) (vn := v) (.inr (.inr H3i.out))).mono ?_
            rintro x _ ⟨rfl, rfl⟩
            go_wp2_with fail
            refine (ch_Told_arg HO4.out.a (k := i) (vn := v) (.inr (.inr H3i.out))).mono ?_
            rintro x _ ⟨rfl, rfl⟩
            go_wp2_with fail
            go_roundw
            case rel =>
              refine ⟨i + 1, by omega, by go_num, ?_, ?_, Lib.hid ⟨Sa1, Sb2, ?_⟩⟩
              · rw [Hha.out, Hon.out]; simp [bit]
              · rw [H3.out, ← tAt_3]
              · rw [hkj, Hha.out, Hpa.out, Hhb.out, Hpb.out]; exact HO5.out
            case measure => simp [intOf]; omega
          · have h3i : (i : Int) ≠ 3 := by omega
            have d3 : ((i : Int) != 3) = true := by simp; omega
            have H3 := Lib.hid h3
            have H3i := Lib.hid h3i
            clear h3 h3i
            have HT1 := Lib.hid (ch_Told (k := i) (t' := tAt (i + 1)) HO4.out.a ok73 (by omega) H3i.out (tAt_step hi7 H3.out))
            refine HT1.out.mono ?_
            rw [Hpv.out]
            rintro x V5 ⟨rfl, hC, hE⟩
            have HO5 := Lib.hid (HO4.out.stepA hC (ext_r hE) (fun j hj => .inl hj) (fun j hj => Nat.lt_of_lt_of_le (HO4.out.sa j hj) hE.size))
            clear hC hE HT1
            go_wp2_with fail
            have HT2 := Lib.hid (ch_Told (k := i) (t' := tAt (i + 1)) HO5.out.a ok73 (by omega) H3i.out (tAt_again hi7 H3.out))
            refine HT2.out.mono ?_
            rw [justB_self]
            rintro x V6 ⟨rfl, hC, hE⟩
            have HO6 := Lib.hid (HO5.out.stepA hC (ext_r hE) (fun j hj => .inl hj) (fun j hj => Nat.lt_of_lt_of_le (HO5.out.sa j hj) hE.size))
            clear hC hE HT2
            have Htn := Lib.hid (once3_step (tAt_len i) hi7 (tAt_step hi7 H3.out))
            rw [Hpv.out] at Htn
            cases pv with
            | false =>
              go_wp2_with fail
              go_roundw
              case rel =>
                refine ⟨i + 1, by omega, by go_num, ?_, ?_, Lib.hid ⟨Sa1, Sb2, ?_⟩⟩
                · rw [Hha.out, Hon.out]; simp [bit]
                · rw [Htn.out]; simp [bit]
                · rw [hkj, Hha.out, Hpa.out, Hhb.out, Hpb.out]; exact HO6.out
              case measure => simp [intOf]; omega
            | true =>
              go_wp2_with fail
              go_roundw
              case rel =>
                refine ⟨i + 1, by omega, by go_num, ?_, ?_, Lib.hid ⟨Sa1, Sb2, ?_⟩⟩
                · rw [Hha.out, Hon.out]; simp [bit]
                · rw [Htn.out]; simp [bit]
                · rw [hkj, Hha.out, Hpa.out, Hhb.out, Hpb.out]; exact HO6.out
              case measure => simp [intOf]; omega
      | true =>
        cases m2 with
        | false =>
          obtain rfl := Hyf.out rfl
          simp only [errM_t, errM_f]
          go_wp2_with fail
          refine (pack_May HQ.out (pk_ok HP1.out HL.out).2.1 (pk_ok HP1.out HL.out).2.2.1).mono ?_
          rintro x V4 ⟨rfl, hb⟩
          rw [show mayB P1.l P1.b P1.c P1.es = true from Hm1.out]
          have HO4 := Lib.hid (HO3.out.below hb)
          clear hb HO3 HQ e0 e1 e2 e3
          cases xv with
          | false =>
            go_wp2_with fail
            by_cases h3 : i = 3
            · have h3i : (i : Int) = 3 := by omega
              have d3 : ((i : Int) != 3) = false := by simp; omega
              have HO5 := Lib.hid (show OS w V4 T Sa1 Sb2 ca va ga cb vb gb v (tAt (i + 1)) ha' hb' pa' pb' (.slice (some ⟨bk, off, none⟩) L.length d) L from by
                have := HO4.out
                rw [show tAt i = tAt (i + 1) from by rw [h3]; exact tAt_3] at this
                exact this)
              have H3 := Lib.hid h3
              have H3i := Lib.hid h3i
              clear h3 h3i
              refine (ch_Told_arg HO4.out.a (k := i) (vn := v) (.inr (.inr H3i.out))).mono ?_
              rintro x _ ⟨rfl, rfl⟩
              go_wp2_with fail
              refine (ch_Told_arg HO4.out.a (k := i) (vn := v) (.inr (.inr H3i.out))).mono ?_
              rintro x _ ⟨rfl, rfl⟩
              go_wp2_with fail
              go_roundw
              case rel =>
                refine ⟨i + 1, by omega, by go_num, ?_, ?_, Lib.hid ⟨Sa1, Sb2, ?_⟩⟩
                · rw [Hha.out, Hon.out]; simp [bit]
                · rw [H3.out, ← tAt_3]
                · rw [hkj, Hha.out, Hpa.out, Hhb.out, Hpb.out]; exact HO5.out
              case measure => simp [intOf]; omega
            · have h3i : (i : Int) ≠ 3 := by omega
              have d3 : ((i : Int) != 3) = true := by simp; omega
              have H3 := Lib.hid h3
              have H3i := Lib.hid h3i
              clear h3 h3i
              have HT1 := Lib.hid (ch_Told (k := i) (t' := tAt (i + 1)) HO4.out.a ok73 (by omega) H3i.out (tAt_step hi7 H3.out))
              refine HT1.out.mono ?_
              rw [Hpv.out]
              rintro x V5 ⟨rfl, hC, hE⟩
              have HO5 := Lib.hid (HO4.out.stepA hC (ext_r hE) (fun j hj => .inl hj) (fun j hj => Nat.lt_of_lt_of_le (HO4.out.sa j hj) hE.size))
              clear hC hE HT1
              go_wp2_with fail
              have HT2 := Lib.hid (ch_Told (k := i) (t' := tAt (i + 1)) HO5.out.a ok73 (by omega) H3i.out (tAt_again hi7 H3.out))
              refine HT2.out.mono ?_
              rw [justB_self]
              rintro x V6 ⟨rfl, hC, hE⟩
              have HO6 := Lib.hid (HO5.out.stepA hC (ext_r hE) (fun j hj => .inl hj) (fun j hj => Nat.lt_of_lt_of_le (HO5.out.sa j hj) hE.size))
              clear hC hE HT2
              have Htn := Lib.hid (once3_step (tAt_len i) hi7 (tAt_step hi7 H3.out))
              rw [Hpv.out] at Htn
              cases pv with
              | false =>
                go_wp2_with fail
                go_roundw
                case rel =>
                  refine ⟨i + 1, by omega, by go_num, ?_, ?_, Lib.hid ⟨Sa1, Sb2, ?_⟩⟩
                  · rw [Hha.out, Hon.out]; simp [bit]
                  · rw [Htn.out]; simp [bit]
                  · rw [hkj, Hha.out, Hpa.out, Hhb.out, Hpb.out]; exact HO6.out
                case measure => simp [intOf]; omega
              | true =>
                go_wp2_with fail
                go_roundw
                case rel =>
                  refine ⟨i + 1, by omega, by go_num, ?_, ?_, Lib.hid ⟨Sa1, Sb2, ?_⟩⟩
                  · rw [Hha.out, Hon.out]; simp [bit]
                  · rw [Htn.out]; simp [bit]
                  · rw [hkj, Hha.out, Hpa.out, Hhb.out, Hpb.out]; exact HO6.out
                case measure => simp [intOf]; omega
          | true =>
            go_wp2_with fail
            by_cases h3 : i = 3
            · have h3i : (i : Int) = 3 := by omega
              have d3 : ((i : Int) != 3) = false := by simp; omega
              have HO5 := Lib.hid (show OS w V4 T Sa1 Sb2 ca va ga cb vb gb v (tAt (i + 1)) ha' hb' pa' pb' (.slice (some ⟨bk, off, none⟩) L.length d) L from by
                have := HO4.out
                rw [show tAt i = tAt (i + 1) from by rw [h3]; exact tAt_3] at this
                exact this)
              have H3 := Lib.hid h3
              have H3i := Lib.hid h3i
              clear h3 h3i
              refine (ch_Told_arg HO4.out.a (k := i) (vn := v) (.inr (.inr H3i.out))).mono ?_
              rintro x _ ⟨rfl, rfl⟩
              go_wp2_with fail
              refine (ch_Told_arg HO4.out.a (k := i) (vn := v) (.inr (.inr H3i.out))).mono ?_
              rintro x _ ⟨rfl, rfl⟩
              go_wp2_with fail
              go_roundw
              case rel =>
                refine ⟨i + 1, by omega, by go_num, ?_, ?_, Lib.hid ⟨Sa1, Sb2, ?_⟩⟩
                · rw [Hha.out, Hon.out]; simp [bit]
                · rw [H3.out, ← tAt_3]
                · rw [hkj, Hha.out, Hpa.out, Hhb.out, Hpb.out]; exact HO5.out
              case measure => simp [intOf]; omega
            · have h3i : (i : Int) ≠ 3 := by omega
              have d3 : ((i : Int) != 3) = true := by simp; omega
              have H3 := Lib.hid h3
              have H3i := Lib.hid h3i
              clear h3 h3i
              have HT1 := Lib.hid (ch_Told (k := i) (t' := tAt (i + 1)) HO4.out.a ok73 (by omega) H3i.out (tAt_step hi7 H3.out))
              refine HT1.out.mono ?_
              rw [Hpv.out]
              rintro x V5 ⟨rfl, hC, hE⟩
              have HO5 := Lib.hid (HO4.out.stepA hC (ext_r hE) (fun j hj => .inl hj) (fun j hj => Nat.lt_of_lt_of_le (HO4.out.sa j hj) hE.size))
              clear hC hE HT1
              go_wp2_with fail
              have HT2 := Lib.hid (ch_Told (k := i) (t' := tAt (i + 1)) HO5.out.a ok73 (by omega) H3i.out (tAt_again hi7 H3.out))
              refine HT2.out.mono ?_
              rw [justB_self]
              rintro x V6 ⟨rfl, hC, hE⟩
              have HO6 := Lib.hid (HO5.out.stepA hC (ext_r hE) (fun j hj => .inl hj) (fun j hj => Nat.lt_of_lt_of_le (HO5.out.sa j hj) hE.size))
              clear hC hE HT2
              have Htn := Lib.hid (once3_step (tAt_len i) hi7 (tAt_step hi7 H3.out))
              rw [Hpv.out] at Htn
              cases pv with
              | false =>
                go_wp2_with fail
                go_roundw
                case rel =>
                  refine ⟨i + 1, by omega, by go_num, ?_, ?_, Lib.hid ⟨Sa1, Sb2, ?_⟩⟩
                  · rw [Hha.out, Hon.out]; simp [bit]
                  · rw [Htn.out]; simp [bit]
                  · rw [hkj, Hha.out, Hpa.out, Hhb.out, Hpb.out]; exact HO6.out
                case measure => simp [intOf]; omega
              | true =>
                go_wp2_with fail
                go_roundw
                case rel =>
                  refine ⟨i + 1, by omega, by go_num, ?_, ?_, Lib.hid ⟨Sa1, Sb2, ?_⟩⟩
                  · rw [Hha.out, Hon.out]; simp [bit]
                  · rw [Htn.out]; simp [bit]
                  · rw [hkj, Hha.out, Hpa.out, Hhb.out, Hpb.out]; exact HO6.out
                case measure => simp [intOf]; omega
        | true =>
          simp only [errM_t, errM_f]
          go_wp2_with fail
          refine (pack_May HQ.out (pk_ok HP1.out HL.out).2.1 (pk_ok HP1.out HL.out).2.2.1).mono ?_
          rintro x V4 ⟨rfl, hb⟩
          rw [show mayB P1.l P1.b P1.c P1.es = true from Hm1.out]
          have HO4 := Lib.hid (HO3.out.below hb)
          clear hb HO3 HQ e0 e1 e2 e3
          cases xv with
          | false =>
            go_wp2_with fail
            by_cases h3 : i = 3
            · have h3i : (i : Int) = 3 := by omega
              have d3 : ((i : Int) != 3) = false := by simp; omega
              have HO5 := Lib.hid (show OS w V4 T Sa1 Sb2 ca va ga cb vb gb v (tAt (i + 1)) ha' hb' pa' pb' (.slice (some ⟨bk, off, none⟩) L.length d) L from by
                have := HO4.out
                rw [show tAt i = tAt (i + 1) from by rw [h3]; exact tAt_3] at this
                exact this)
              have H3 := Lib.hid h3
              have H3i := Lib.hid h3i
              clear h3 h3i
              refine (ch_Told_arg HO4.out.a (k := i) (vn := v) (.inr (.inr H3i.out))).mono ?_
              rintro x _ ⟨rfl, rfl⟩
              go_wp2_with fail
              refine (ch_Told_arg HO4.out.a (k := i) (vn := v) (.inr (.inr H3i.out))).mono ?_
              rintro x _ ⟨rfl, rfl⟩
              go_wp2_with fail
              go_roundw
              case rel =>
                refine ⟨i + 1, by omega, by go_num, ?_, ?_, Lib.hid ⟨Sa1, Sb2, ?_⟩⟩
                · rw [Hha.out, Hon.out]; simp [bit]
                · rw [H3.out, ← tAt_3]
                · rw [hkj, Hha.out, Hpa.out, Hhb.out, Hpb.out]; exact HO5.out
              case measure => simp [intOf]; omega
            · have h3i : (i : Int) ≠ 3 := by omega
              have d3 : ((i : Int) != 3) = true := by simp; omega
              have H3 := Lib.hid h3
              have H3i := Lib.hid h3i
              clear h3 h3i
              have HT1 := Lib.hid (ch_Told (k := i) (t' := tAt (i + 1)) HO4.out.a ok73 (by omega) H3i.out (tAt_step hi7 H3.out))
              refine HT1.out.mono ?_
              rw [Hpv.out]
              rintro x V5 ⟨rfl, hC, hE⟩
              have HO5 := Lib.hid (HO4.out.stepA hC (ext_r hE) (fun j hj => .inl hj) (fun j hj => Nat.lt_of_lt_of_le (HO4.out.sa j hj) hE.size))
              clear hC hE HT1
              go_wp2_with fail
              have HT2 := Lib.hid (ch_Told (k := i) (t' := tAt (i + 1)) HO5.out.a ok73 (by omega) H3i.out (tAt_again hi7 H3.out))
              refine HT2.out.mono ?_
              rw [justB_self]
              rintro x V6 ⟨rfl, hC, hE⟩
              have HO6 := Lib.hid (HO5.out.stepA hC (ext_r hE) (fun j hj => .inl hj) (fun j hj => Nat.lt_of_lt_of_le (HO5.out.sa j hj) hE.size))
              clear hC hE HT2
              have Htn := Lib.hid (once3_step (tAt_len i) hi7 (tAt_step hi7 H3.out))
              rw [Hpv.out] at Htn
              cases pv with
              | false =>
                go_wp2_with fail
                go_roundw
                case rel =>
                  refine ⟨i + 1, by omega, by go_num, ?_, ?_, Lib.hid ⟨Sa1, Sb2, ?_⟩⟩
                  · rw [Hha.out, Hon.out]; simp [bit]
                  · rw [Htn.out]; simp [bit]
                  · rw [hkj, Hha.out, Hpa.out, Hhb.out, Hpb.out]; exact HO6.out
                case measure => simp [intOf]; omega
              | true =>
                go_wp2_with fail
                go_roundw
                case rel =>
                  refine ⟨i + 1, by omega, by go_num, ?_, ?_, Lib.hid ⟨Sa1, Sb2, ?_⟩⟩
                  · rw [Hha.out, Hon.out]; simp [bit]
                  · rw [Htn.out]; simp [bit]
                  · rw [hkj, Hha.out, Hpa.out, Hhb.out, Hpb.out]; exact HO6.out
                case measure => simp [intOf]; omega
          | true =>
            go_wp2_with fail
            by_cases h3 : i = 3
            · have h3i : (i : Int) = 3 := by omega
              have d3 : ((i : Int) != 3) = false := by simp; omega
              have HO5 := Lib.hid (show OS w V4 T Sa1 Sb2 ca va ga cb vb gb v (tAt (i + 1)) ha' hb' pa' pb' (.slice (some ⟨bk, off, none⟩) L.length d) L from by
                have := HO4.out
                rw [show tAt i = tAt (i + 1) from by rw [h3]; exact tAt_3] at this
                exact this)
              have H3 := Lib.hid h3
              have H3i := Lib.hid h3i
              clear h3 h3i
              refine (ch_Told_arg HO4.out.a (k := i) (vn := v) (.inr (.inr H3i.out))).mono ?_
              rintro x _ ⟨rfl, rfl⟩
              go_wp2_with fail
              refine (ch_Told_arg HO4.out.a (k := i) (vn := v) (.inr (.inr H3i.out))).mono ?_
              rintro x _ ⟨rfl, rfl⟩
              go_wp2_with fail
              go_roundw
              case rel =>
                refine ⟨i + 1, by omega, by go_num, ?_, ?_, Lib.hid ⟨Sa1, Sb2, ?_⟩⟩
                · rw [Hha.out, Hon.out]; simp [bit]
                · rw [H3.out, ← tAt_3]
                · rw [hkj, Hha.out, Hpa.out, Hhb.out, Hpb.out]; exact HO5.out
              case measure => simp [intOf]; omega
            · have h3i : (i : Int) ≠ 3 := by omega
              have d3 : ((i : Int) != 3) = true := by simp; omega
              have H3 := Lib.hid h3
              have H3i := Lib.hid h3i
              clear h3 h3i
              have HT1 := Lib.hid (ch_Told (k := i) (t' := tAt (i + 1)) HO4.out.a ok73 (by omega) H3i.out (tAt_step hi7 H3.out))
              refine HT1.out.mono ?_
              rw [Hpv.out]
              rintro x V5 ⟨rfl, hC, hE⟩
              have HO5 := Lib.hid (HO4.out.stepA hC (ext_r hE) (fun j hj => .inl hj) (fun j hj => Nat.lt_of_lt_of_le (HO4.out.sa j hj) hE.size))
              clear hC hE HT1
              go_wp2_with fail
              have HT2 := Lib.hid (ch_Told (k := i) (t' := tAt (i + 1)) HO5.out.a ok73 (by omega) H3i.out (tAt_again hi7 H3.out))
              refine HT2.out.mono ?_
              rw [justB_self]
              rintro x V6 ⟨rfl, hC, hE⟩
              have HO6 := Lib.hid (HO5.out.stepA hC (ext_r hE) (fun j hj => .inl hj) (fun j hj => Nat.lt_of_lt_of_le (HO5.out.sa j hj) hE.size))
              clear hC hE HT2
              have Htn := Lib.hid (once3_step (tAt_len i) hi7 (tAt_step hi7 H3.out))
              rw [Hpv.out] at Htn
              cases pv with
              | false =>
                go_wp2_with fail
                go_roundw
                case rel =>
                  refine ⟨i + 1, by omega, by go_num, ?_, ?_, Lib.hid ⟨Sa1, Sb2, ?_⟩⟩
                  · rw [Hha.out, Hon.out]; simp [bit]
                  · rw [Htn.out]; simp [bit]
                  · rw [hkj, Hha.out, Hpa.out, Hhb.out, Hpb.out]; exact HO6.out
                case measure => simp [intOf]; omega
              | true =>
                go_wp2_with fail
                go_roundw
                case rel =>
                  refine ⟨i + 1, by omega, by go_num, ?_, ?_, Lib.hid ⟨Sa1, Sb2, ?_⟩⟩
                  · rw [Hha.out, Hon.out]; simp [bit]
                  · rw [Htn.out]; simp [bit]
                  · rw [hkj, Hha.out, Hpa.out, Hhb.out, Hpb.out]; exact HO6.out
                case measure => simp [intOf]; omega
    · obtain rfl : i = n := by omega
      clear hi hlt
      have HO0 := Lib.hid (show OS w wr T Sa Sb ca va ga cb vb gb v (tAt i) (hAt L 0 i) (hAt L 0 i) (pAt L 0 i) (pAt L 0 i) (.slice p L.length d) L from by
        have := HO.out
        rw [Nat.sub_self] at this
        exact this)
      have HPK := Lib.hid (pAt_ok (fun q hq => ⟨(HL.out q hq).2.2.1, (HL.out q hq).2.2.2⟩) 0 i)
      have Ht3 := Lib.hid (told3 hn7)
      clear HO
      generalize hBq : bestOf (pAt L 0 i) (whoL (hAt L 0 i)) = B
      have HBl := Lib.hid (show B.es.length ≤ 64 from by rw [← hBq]; exact bestOf_len HPK.out _)
      have HBq := Lib.hid hBq
      clear hBq
      obtain ⟨Bl, Bb, Bc, Be⟩ := B
      obtain ⟨tk, htk⟩ : ∃ x, once 3 (tAt i) = x := ⟨_, rfl⟩
      rw [htk] at Ht3 ⊢
      clear htk
      by_cases hen : 4 ≤ (whoL (hAt L 0 i)).length
      · rw [show once 4 (hAt L 0 i) = 1 from if_pos hen]
        have Hen := Lib.hid (show (7 : Int) / 2 + 1 ≤ (whoL (hAt L 0 i)).length by omega)
        clear hen
        go_wp2_with fail
        have HA := Lib.hid (ch_Best HO0.out.a ok73 HO0.out.sa HPK.out Hen.out)
        rw [HBq.out] at HA
        refine HA.out.mono ?_
        rintro x V1 ⟨p1, c1, rfl, hO, hb⟩
        have hbn := (HPK.out)
        have HO1 := Lib.hid (HO0.out.below hb)
        have EA1 := Lib.hid (EntsOwn.rd hO)
        clear hO hb HO0 HA hbn
        go_upto_region 25 with fail
        have hb := (Below.refl V1.heap.size V1).alloc (Nat.le_refl _) (.cells #[.int .u64 Bl, .int .u64 Bb, .int .u64 Bc, .slice p1 Be.length c1] 35)
        have KA := Lib.hid (Blk.new V1 35 #[.int .u64 Bl, .int .u64 Bb, .int .u64 Bc, .slice p1 Be.length c1])
        have HO2 := Lib.hid (HO1.out.below hb)
        have EA2 := Lib.hid (EA1.out.below hb)
        clear EA1
        clear hb HO1
        generalize V1.alloc (.cells #[.int .u64 Bl, .int .u64 Bb, .int .u64 Bc, .slice p1 Be.length c1] 35) = V2 at *
        go_wp2_with fail
        have HA := Lib.hid (ch_Best HO2.out.b ok73 HO2.out.sb HPK.out Hen.out)
        rw [HBq.out] at HA
        refine HA.out.mono ?_
        rintro x V3 ⟨p2, c2, rfl, hO, hb⟩
        have HO3 := Lib.hid (HO2.out.below hb)
        have EA3 := Lib.hid (EA2.out.below hb)
        have KA3 := Lib.hid (KA.out.below hb)
        have EB3 := Lib.hid (EntsOwn.rd hO)
        clear hO hb HO2 HA EA2 KA
        go_upto_region 26 with fail
        have hb := (Below.refl V3.heap.size V3).alloc (Nat.le_refl _) (.cells #[.int .u64 Bl, .int .u64 Bb, .int .u64 Bc, .slice p2 Be.length c2] 35)
        have KB := Lib.hid (Blk.new V3 35 #[.int .u64 Bl, .int .u64 Bb, .int .u64 Bc, .slice p2 Be.length c2])
        have HO4 := Lib.hid (HO3.out.below hb)
        have EA4 := Lib.hid (EA3.out.below hb)
        have EB4 := Lib.hid (EB3.out.below hb)
        have KA := Lib.hid (KA3.out.below hb)
        clear EA3 EB3 KA3
        clear hb HO3
        generalize V3.alloc (.cells #[.int .u64 Bl, .int .u64 Bb, .int .u64 Bc, .slice p2 Be.length c2] 35) = V4 at *
        obtain ⟨q0, q1, q2, q3, -, -, -, -, qz⟩ := KA.out.c4
        obtain ⟨r0, r1, r2, r3, -, -, -, -, rz⟩ := KB.out.c4
        have ht := eq_of_beq Ht3.out
        go_wp2_with fail
        refine (pack_Same (a1 := Bl) (b1 := Bb) (c1 := Bc) (a2 := Bl) (b2 := Bb) (c2 := Bc) EA4.out EB4.out (Nat.le_trans HBl.out (by decide))).mono ?_
        rw [show sameP Bl Bb Bc Bl Bb Bc Be Be = true from by unfold sameP; rw [sameL_self]; simp]
        rintro x V5 ⟨rfl, hb⟩
        have HO5 := Lib.hid (HO4.out.below hb)
        clear hb HO4 q0 q1 q2 q3 r0 r1 r2 r3 qz rz KA KB
        go_wp2_with fail
        refine wakes_true.mono ?_
        rintro x V6 ⟨rfl, hb⟩
        have HO6 := Lib.hid (HO5.out.below hb)
        clear hb HO5
        go_wp2_with fail
        go_ret
        exact ⟨rfl, HO6.out.bl⟩
      · rw [show once 4 (hAt L 0 i) = 0 from if_neg hen]
        have Hen := Lib.hid (show ((whoL (hAt L 0 i)).length : Int) < 7 / 2 + 1 by omega)
        clear hen
        go_wp2_with fail
        refine (ch_Best_few HO0.out.a ok73 Hen.out).mono ?_
        rintro x V1 ⟨rfl, hb⟩
        have HO1 := Lib.hid (HO0.out.below hb)
        clear hb HO0
        go_upto_region 25 with fail
        have hb := (Below.refl V1.heap.size V1).alloc (Nat.le_refl _) (.cells #[.int .u64 0, .int .u64 0, .int .u64 0, .slice none 0 0] 35)
        have KA := Lib.hid (Blk.new V1 35 #[.int .u64 0, .int .u64 0, .int .u64 0, .slice none 0 0])
        have HO2 := Lib.hid (HO1.out.below hb)
        clear hb HO1
        generalize V1.alloc (.cells #[.int .u64 0, .int .u64 0, .int .u64 0, .slice none 0 0] 35) = V2 at *
        go_wp2_with fail
        refine (ch_Best_few HO2.out.b ok73 Hen.out).mono ?_
        rintro x V3 ⟨rfl, hb⟩
        have HO3 := Lib.hid (HO2.out.below hb)
        have KA3 := Lib.hid (KA.out.below hb)
        clear hb HO2 KA
        go_upto_region 26 with fail
        have hb := (Below.refl V3.heap.size V3).alloc (Nat.le_refl _) (.cells #[.int .u64 0, .int .u64 0, .int .u64 0, .slice none 0 0] 35)
        have KB := Lib.hid (Blk.new V3 35 #[.int .u64 0, .int .u64 0, .int .u64 0, .slice none 0 0])
        have HO4 := Lib.hid (HO3.out.below hb)
        have KA := Lib.hid (KA3.out.below hb)
        clear KA3
        clear hb HO3
        generalize V3.alloc (.cells #[.int .u64 0, .int .u64 0, .int .u64 0, .slice none 0 0] 35) = V4 at *
        obtain ⟨q0, q1, q2, q3, -, -, -, -, qz⟩ := KA.out.c4
        obtain ⟨r0, r1, r2, r3, -, -, -, -, rz⟩ := KB.out.c4
        have ht := eq_of_beq Ht3.out
        go_wp2_with fail
        refine (pack_Same (a1 := 0) (b1 := 0) (c1 := 0) (a2 := 0) (b2 := 0) (c2 := 0) (nil_rd4 V4) (nil_rd4 V4) (by decide)).mono ?_
        rw [show sameP 0 0 0 0 0 0 [] [] = true from by decide +kernel]
        rintro x V5 ⟨rfl, hb⟩
        have HO5 := Lib.hid (HO4.out.below hb)
        clear hb HO4 q0 q1 q2 q3 r0 r1 r2 r3 qz rz KA KB
        go_wp2_with fail
        refine wakes_true.mono ?_
        rintro x V6 ⟨rfl, hb⟩
        have HO6 := Lib.hid (HO5.out.below hb)
        clear hb HO5
        go_wp2_with fail
        go_ret
        exact ⟨rfl, HO6.out.bl⟩
end Go.Proofs.Ytgmekodfkhihiaa
