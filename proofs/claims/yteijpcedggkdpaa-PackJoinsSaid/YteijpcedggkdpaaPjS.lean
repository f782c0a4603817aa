/-
  PackJoins: the walk where the packs join. Condition: the arguments can be read. (Printed by wip/gen_pj.py.)
-/
import Derived.Test.YteijpcedggkdpaaPj
namespace Go.Proofs.Yteijpcedggkdpaa
open Go.RowKit
set_option linter.unusedSimpArgs false
set_option linter.unusedVariables false

set_option maxHeartbeats 3200000 in
set_option maxRecDepth 100000 in
theorem pj_short_ok {w : World} {S : Nat → Prop} {pl pb pc m : Int} {pv ov : Value} {ps0 es0 : List Ent} (hp : EntsRd w S pv ps0) (ho : EntsRd w S ov es0) (hpf : Fits ps0) (hef : Fits es0) (hm : 0 ≤ m) (hb0 : 0 ≤ pb) (h1 : m ≤ 1099511627776) (hlong : longB (es0.take 64) = false) (hmy : mayB pl pb pc (ps0.take 64) = true) (hhi : m ≤ pb + (ps0.take 64).length) :
    Calls Try.prog 3 #[.agg #[.int .u64 pl, .int .u64 pb, .int .u64 pc, pv], .int .u64 m, ov] w fun x w' => x = .returned (.bool true) ∧ Below w.heap.size w w' := by
  obtain ⟨cs, hr, -⟩ := id hp
  obtain ⟨q, d, rfl⟩ := Rd.slice hr
  obtain ⟨cs2, hr2, -⟩ := id ho
  obtain ⟨q2, d2, rfl⟩ := Rd.slice hr2
  have hpn := Rd.le hr
  have hen := Rd.le hr2
  have hdl : ps0.length ≤ d := by obtain ⟨_, _, _, h, h1, _⟩ := hr; injection h with _ _ h; omega
  have hdl2 : es0.length ≤ d2 := by obtain ⟨_, _, _, h, h1, _⟩ := hr2; injection h with _ _ h; omega
  unfold maxLen at hpn hen
  have M1 := Lib.hid (min64 ps0.length ps0 rfl)
  have M2 := Lib.hid (min64 es0.length es0 rfl)
  have hl1 : (ps0.take 64).length ≤ 64 ∧ (ps0.take 64).length ≤ ps0.length := by rw [List.length_take]; omega
  have hl2 : (es0.take 64).length ≤ 64 ∧ (es0.take 64).length ≤ es0.length := by rw [List.length_take]; omega
  have P1 := EntsRd.front hp (k := (ps0.take 64).length) hl1.2
  have P2 := EntsRd.front ho (k := (es0.take 64).length) hl2.2
  rw [show ps0.take (ps0.take 64).length = ps0.take 64 from by rw [List.length_take, ← List.take_take, List.take_length]] at P1
  rw [show es0.take (es0.take 64).length = es0.take 64 from by rw [List.length_take, ← List.take_take, List.take_length]] at P2
  have F1 := Lib.hid (hpf.take 64)
  have F2 := Lib.hid (hef.take 64)
  have hpd : (ps0.take 64).length ≤ d := by omega
  have hed : (es0.take 64).length ≤ d2 := by omega
  generalize ps0.take 64 = ps at *
  generalize es0.take 64 = es at *
  have HP := Lib.hid P1
  have HO := Lib.hid P2
  clear P1 P2 hp ho hr hr2 hpf hef cs cs2
  have Hmy := Lib.hid hmy
  clear hmy
  have hlong := Lib.hid hlong
  go_enter Try.func3, Try.ntmps3
  go_wp2_with fail
  have K1 := Blk.new w 25 #[.int .u64 pl, .int .u64 pb, .int .u64 pc, .slice q ps0.length d]
  obtain ⟨m0, m1, m2, m3, f0, f1, f2, f3, hz⟩ := K1.c4
  have hS : Hold0 (w.alloc (.cells #[.int .u64 pl, .int .u64 pb, .int .u64 pc, .slice q ps0.length d] 25)).drew := trivial
  have hT : noLate [13] (Array.replicate 15 false) = true → Hold1 (w.heap.size, 3, .slice q ps0.length d) (w.alloc (.cells #[.int .u64 pl, .int .u64 pb, .int .u64 pc, .slice q ps0.length d] 25)).drew := fun _ => m3
  refine begin_D [13] (by kernel_rfl) hS hT ?_
  replace hT := hT rfl
  refine take_S (v := ?v0p) 0 rfl (by kernel_rfl) (by kernel_rfl) (by kernel_rfl) (by kernel_rfl) (fun _ _ _ h => h) hS (fun _ => hT) rfl (fun w' hq => ?h0p) ?_
  case h0p => go_simp; try with_reducible rfl
  try simp only [Act.put, List.setIfInBounds_toArray, List.set_cons_zero, List.set_cons_succ, List.getElem_toArray, List.getElem_cons_succ, List.getElem_cons_zero]
  refine take_T (v := ?v1p) 1 rfl (by kernel_rfl) (by kernel_rfl) (by kernel_rfl) (by kernel_rfl) (by kernel_rfl) (by kernel_rfl) (fun _ _ _ h => h) hS (fun _ => hT) rfl (fun w' hq hr => ?h1p) ?_
  case h1p => change _ = some _ at hr; go_simp; try with_reducible rfl
  try simp only [Act.put, List.setIfInBounds_toArray, List.set_cons_zero, List.set_cons_succ, List.getElem_toArray, List.getElem_cons_succ, List.getElem_cons_zero]
  refine take_S (v := ?v2p) 2 rfl (by kernel_rfl) (by kernel_rfl) (by kernel_rfl) (by kernel_rfl) (fun _ _ _ h => h) hS (fun _ => hT) rfl (fun w' hq => ?h2p) ?_
  case h2p => go_simp; try with_reducible rfl
  try simp only [Act.put, List.setIfInBounds_toArray, List.set_cons_zero, List.set_cons_succ, List.getElem_toArray, List.getElem_cons_succ, List.getElem_cons_zero]
  refine take_T (v := ?v3p) 3 rfl (by kernel_rfl) (by kernel_rfl) (by kernel_rfl) (by kernel_rfl) (by kernel_rfl) (by kernel_rfl) (fun _ _ _ h => h) hS (fun _ => hT) rfl (fun w' hq hr => ?h3p) ?_
  case h3p => change _ = some _ at hr; go_simp; try with_reducible rfl
  try simp only [Act.put, List.setIfInBounds_toArray, List.set_cons_zero, List.set_cons_succ, List.getElem_toArray, List.getElem_cons_succ, List.getElem_cons_zero]
  refine take_S (v := ?v4p) 4 rfl (by kernel_rfl) (by kernel_rfl) (by kernel_rfl) (by kernel_rfl) (fun _ _ _ h => h) hS (fun _ => hT) rfl (fun w' hq => ?h4p) ?_
  case h4p => go_simp; try with_reducible rfl
  try simp only [Act.put, List.setIfInBounds_toArray, List.set_cons_zero, List.set_cons_succ, List.getElem_toArray, List.getElem_cons_succ, List.getElem_cons_zero]
  refine take_S (v := ?v5p) 5 rfl (by kernel_rfl) (by kernel_rfl) (by kernel_rfl) (by kernel_rfl) (fun _ _ _ h => h) hS (fun _ => hT) rfl (fun w' hq => ?h5p) ?_
  case h5p => go_simp; try with_reducible rfl
  try simp only [Act.put, List.setIfInBounds_toArray, List.set_cons_zero, List.set_cons_succ, List.getElem_toArray, List.getElem_cons_succ, List.getElem_cons_zero]
  rw [M1.out]
  refine take_S (v := ?v6p) 6 rfl (by kernel_rfl) (by kernel_rfl) (by kernel_rfl) (by kernel_rfl) (fun _ _ _ h => h) hS (fun _ => hT) rfl (fun w' hq => ?h6p) ?_
  case h6p => go_simp; try with_reducible rfl
  try simp only [Act.put, List.setIfInBounds_toArray, List.set_cons_zero, List.set_cons_succ, List.getElem_toArray, List.getElem_cons_succ, List.getElem_cons_zero]
  refine take_S (v := ?v7p) 7 rfl (by kernel_rfl) (by kernel_rfl) (by kernel_rfl) (by kernel_rfl) (fun _ _ _ h => h) hS (fun _ => hT) rfl (fun w' hq => ?h7p) ?_
  case h7p => go_simp; try with_reducible rfl
  try simp only [Act.put, List.setIfInBounds_toArray, List.set_cons_zero, List.set_cons_succ, List.getElem_toArray, List.getElem_cons_succ, List.getElem_cons_zero]
  refine take_S (v := ?v8p) 8 rfl (by kernel_rfl) (by kernel_rfl) (by kernel_rfl) (by kernel_rfl) (fun _ _ _ h => h) hS (fun _ => hT) rfl (fun w' hq => ?h8p) ?_
  case h8p => go_simp; try with_reducible rfl
  try simp only [Act.put, List.setIfInBounds_toArray, List.set_cons_zero, List.set_cons_succ, List.getElem_toArray, List.getElem_cons_succ, List.getElem_cons_zero]
  refine take_S (v := ?v9p) 9 rfl (by kernel_rfl) (by kernel_rfl) (by kernel_rfl) (by kernel_rfl) (fun _ _ _ h => h) hS (fun _ => hT) rfl (fun w' hq => ?h9p) ?_
  case h9p => go_simp; try with_reducible rfl
  try simp only [Act.put, List.setIfInBounds_toArray, List.set_cons_zero, List.set_cons_succ, List.getElem_toArray, List.getElem_cons_succ, List.getElem_cons_zero]
  refine take_S (v := ?v10p) 10 rfl (by kernel_rfl) (by kernel_rfl) (by kernel_rfl) (by kernel_rfl) (fun _ _ _ h => h) hS (fun _ => hT) rfl (fun w' hq => ?h10p) ?_
  case h10p => go_simp; try with_reducible rfl
  try simp only [Act.put, List.setIfInBounds_toArray, List.set_cons_zero, List.set_cons_succ, List.getElem_toArray, List.getElem_cons_succ, List.getElem_cons_zero]
  rw [M2.out]
  refine take_S (v := ?v11p) 11 rfl (by kernel_rfl) (by kernel_rfl) (by kernel_rfl) (by kernel_rfl) (fun _ _ _ h => h) hS (fun _ => hT) rfl (fun w' hq => ?h11p) ?_
  case h11p => go_simp; try with_reducible rfl
  try simp only [Act.put, List.setIfInBounds_toArray, List.set_cons_zero, List.set_cons_succ, List.getElem_toArray, List.getElem_cons_succ, List.getElem_cons_zero]
  refine take_S (v := ?v12p) 12 rfl (by kernel_rfl) (by kernel_rfl) (by kernel_rfl) (by kernel_rfl) (fun _ _ _ h => h) hS (fun _ => hT) rfl (fun w' hq => ?h12p) ?_
  case h12p => go_simp; try with_reducible rfl
  try simp only [Act.put, List.setIfInBounds_toArray, List.set_cons_zero, List.set_cons_succ, List.getElem_toArray, List.getElem_cons_succ, List.getElem_cons_zero]
  refine one_D 13 rfl (by kernel_rfl) (fun KQ hK => ?_)
  go_simp
  refine hK.out _ _ trivial (fun h => absurd h (by decide)) ?_
  clear hK hS hT
  refine take_S (v := ?v14p) 14 rfl (by kernel_rfl) (by kernel_rfl) (by kernel_rfl) (by kernel_rfl) (fun _ _ _ h => h) trivial (fun h => absurd h (by decide)) rfl (fun w' hq => ?h14p) ?_
  case h14p => go_simp; try with_reducible rfl
  try simp only [Act.put, List.setIfInBounds_toArray, List.set_cons_zero, List.set_cons_succ, List.getElem_toArray, List.getElem_cons_succ, List.getElem_cons_zero]
  refine done_D (by kernel_rfl) ?_ _
  have hpj : PJ w S pl pb pc (.slice q ps.length d) (.slice q2 es.length d2) ps es (w.alloc (.cells #[.int .u64 pl, .int .u64 pb, .int .u64 pc, .slice q ps.length d] 25)).drew :=
    ⟨((Below.refl _ w).alloc (Nat.le_refl _) _).drew, Blk.new w _ _, EntsRd.below HP.out ((Below.refl _ w).alloc (Nat.le_refl _) _).drew, EntsRd.below HO.out ((Below.refl _ w).alloc (Nat.le_refl _) _).drew⟩
  have HJ := Lib.hid hpj
  have hps := hl1.1
  have hes := hl2.1
  clear hpj K1 m0 m1 m2 m3 f0 f1 f2 f3 hz HP HO M1 M2 hl1 hl2 hpn hen hdl hdl2 hpd hed
  go_wp2_with fail
  refine (log_New (m := m) HJ.out.o F2.out hes h1).mono ?_
  rintro x w2 ⟨b, rfl, hN⟩
  have HA2 := Lib.hid (At.new hN HJ.out.b)
  have HJ2 := Lib.hid (HJ.out.below hN.2.2.2)
  have Hok := Lib.hid (show LogOk m es from ⟨F2.out, hes, hm, by omega⟩)
  clear hN HJ
  go_wp2_with fail
  have hmay : mayB 0 m m es = true := by unfold mayB; rw [hlong.out]; simp; omega
  have Hmay := Lib.hid hmay
  refine (pack_Of HA2.out Hok.out hmay).mono ?_
  rintro x w3 ⟨p3, c3, rfl, ho3, hX⟩
  have HA3 := Lib.hid (HA2.out.below hX)
  have HJ3 := Lib.hid (HJ2.out.below hX)
  have HO3 := Lib.hid (EntsOwn.rd ho3)
  clear hX HA2 HJ2 ho3 hmay
  unfold packVal
  have K3 := Blk.new w3 31 #[.int .u64 0, .int .u64 m, .int .u64 m, .slice p3 es.length c3]
  have hb3 := (Below.refl _ w3).alloc (Nat.le_refl _) (.cells #[.int .u64 0, .int .u64 m, .int .u64 m, .slice p3 es.length c3] 31)
  obtain ⟨m0, m1, m2, m3, -, -, -, -, hz⟩ := K3.c4
  go_wp2_with fail
  have HA4 := Lib.hid (HA3.out.below hb3)
  have HJ4 := Lib.hid (HJ3.out.below hb3)
  have HO4 := Lib.hid (EntsRd.below HO3.out hb3)
  clear HA3 HJ3 HO3 K3 hb3 m0 m1 m2 m3 hz
  refine (pack_Join (M := m) (K := 0) HA4.out Hok.out HO4.out F2.out Hmay.out hm (by omega) (Int.le_refl _) (.inl rfl) (Nat.zero_le _) h1 hes).mono ?_
  rintro x w4 ⟨b4, rfl, hAt, -, hX⟩
  rw [List.drop_zero] at hAt
  have HS5 := Lib.hid hAt
  have HA5 := Lib.hid (HA4.out.below hX)
  have HJ5 := Lib.hid (HJ4.out.below hX)
  clear hAt hX HA4 HJ4 HO4
  go_wp2_with fail
  refine (At_From' HS5.out Hok.out rfl).mono ?_
  rintro x w5 ⟨p5, c5, rfl, ho5, hX⟩
  have HO6 := Lib.hid (EntsOwn.rd ho5)
  have HS6 := Lib.hid (HS5.out.below hX)
  have HA6 := Lib.hid (HA5.out.below hX)
  have HJ6 := Lib.hid (HJ5.out.below hX)
  clear hX ho5 HS5 HA5 HJ5
  go_wp2_with fail
  refine (At_Base HS6.out).mono ?_
  rintro x w6 ⟨rfl, rfl⟩
  go_wp2_with fail
  refine (ref_All HO6.out HJ6.out.o (by omega)).mono ?_
  rintro x w6 ⟨rfl, hX⟩
  have HA := Lib.hid (HA6.out.below hX)
  have HJ := Lib.hid (HJ6.out.below hX)
  clear hX HO6 HS6 HA6 HJ6 Hmay
  obtain ⟨m0, m1, m2, m3, -, -, -, -, hz⟩ := HJ.out.k.c4
  go_wp2_with fail
  clear m0 m1 m2 m3 hz
  have K15 : Blk (w6.alloc (.cells #[.int .u64 pl, .int .u64 pb, .int .u64 pc, .slice q ps.length d] 31)) w6.heap.size 31 #[.int .u64 pl, .int .u64 pb, .int .u64 pc, .slice q ps.length d] := Blk.new _ _ _
  have hb15 := (Below.refl _ w6).alloc (Nat.le_refl _) (.cells #[.int .u64 pl, .int .u64 pb, .int .u64 pc, .slice q ps.length d] 31)
  have HA7 := Lib.hid (HA.out.below hb15)
  have HJ7 := Lib.hid (HJ.out.below hb15)
  have KP7 := Lib.hid K15
  clear HA HJ hb15 K15
  have hparts := may_parts Hmy.out
  have hpb := hparts.2.1
  clear hparts
  obtain ⟨M, K, hM, hMm, hMx, hK, hM1⟩ : ∃ (M : Int) (K : Nat), M = pb + K ∧ m ≤ M ∧ (M = m ∨ M = pb) ∧ K ≤ ps.length ∧ M ≤ 1099511627776 := by
    by_cases hc : m ≤ pb
    · exact ⟨pb, 0, by omega, hc, .inr rfl, Nat.zero_le _, hpb⟩
    · exact ⟨m, (m - pb).toNat, by omega, Int.le_refl _, .inl rfl, by omega, h1⟩
  refine (pack_Join HA7.out Hok.out HJ7.out.p F1.out Hmy.out hb0 hM hMm hMx hK hM1 hps).mono ?_
  rintro x w8 ⟨gm, rfl, hAt, -, hX⟩
  have hmx : (if m < pb then pb else m) = M := by split <;> omega
  have Hmx := Lib.hid hmx
  have hMa : M ≤ pb + K := by omega
  have hMb : pb + K ≤ M := by omega
  have HM := Lib.hid hM
  have hM0 : 0 ≤ M := by omega
  have hlen : (ps.drop K).length + K ≤ ps.length ∧ ps.length ≤ (ps.drop K).length + K := by rw [List.length_drop]; omega
  have hd : ∀ k, (ps.drop K)[k]? = ps[K + k]? := fun k => List.getElem?_drop
  have Hd := Lib.hid hd
  have F3 := Lib.hid (F1.out.drop K)
  clear hmx hM hd hMx
  generalize hds : ps.drop K = ds at *
  have Hds := Lib.hid hds
  clear hds
  have Hm8 := Lib.hid hAt
  have OkM := Lib.hid (show LogOk M ds from ⟨F3.out, by omega, by omega, by omega⟩)
  have HJ8 := Lib.hid (HJ7.out.below hX)
  have KP8 := Lib.hid (Blk.below KP7.out hX)
  clear hX HJ7 HA7 KP7 hAt
  obtain ⟨m0, m1, m2, m3, -, -, -, -, hz⟩ := KP8.out.c4
  obtain ⟨n0, n1, n2, n3, -, -, -, -, hz2⟩ := HJ8.out.k.c4
  go_wp2_with fail
  have hS : Holds [(w6.heap.size, 0, .int .u64 pl), (w6.heap.size, 1, .int .u64 pb), (w6.heap.size, 2, .int .u64 pc), (w6.heap.size, 3, .slice q ps.length d), (w.heap.size, 1, .int .u64 pb)] w8.drew := ⟨m0, m1, m2, m3, n1, trivial⟩
  have hT : Hold0 w8.drew := trivial
  refine begin_D [] (by kernel_rfl) hS (fun _ => hT) ?_
  refine take_S (v := ?v0r) 0 rfl (by kernel_rfl) (by kernel_rfl) (by kernel_rfl) (by kernel_rfl) (fun _ _ _ h => h) hS (fun _ => trivial) rfl (fun w' hq => ?h0r) ?_
  case h0r => obtain ⟨hq0, hq1, hq2, hq3, hq4, -⟩ := hq; change _ = some _ at hq0; change _ = some _ at hq1; change _ = some _ at hq2; change _ = some _ at hq3; change _ = some _ at hq4; go_simp; try with_reducible rfl
  try simp only [Act.put, List.setIfInBounds_toArray, List.set_cons_zero, List.set_cons_succ, List.getElem_toArray, List.getElem_cons_succ, List.getElem_cons_zero]
  refine take_S (v := ?v2r) 2 rfl (by kernel_rfl) (by kernel_rfl) (by kernel_rfl) (by kernel_rfl) (fun _ _ _ h => h) hS (fun _ => trivial) rfl (fun w' hq => ?h2r) ?_
  case h2r => obtain ⟨hq0, hq1, hq2, hq3, hq4, -⟩ := hq; change _ = some _ at hq0; change _ = some _ at hq1; change _ = some _ at hq2; change _ = some _ at hq3; change _ = some _ at hq4; go_simp; try with_reducible rfl
  try simp only [Act.put, List.setIfInBounds_toArray, List.set_cons_zero, List.set_cons_succ, List.getElem_toArray, List.getElem_cons_succ, List.getElem_cons_zero]
  refine one_D 1 rfl (by kernel_rfl) (fun KQ hK => ?_)
  go_simp
  refine (At_Op (Hm8.out.below (below_drewN (Below.refl _ w8) 1)) OkM.out).mono ?_
  rintro x w9 ⟨rfl, rfl⟩
  have hV : M + (ds.length : Int) = pb + (ps.length : Int) := by omega
  rw [hV]
  clear hV
  refine hK.out _ _ hS (fun _ => trivial) ?_
  clear hK
  refine one_D 3 rfl (by kernel_rfl) (fun KQ hK => ?_)
  go_simp
  refine (pack_Op (by omega)).mono ?_
  rintro x w9 ⟨rfl, hX⟩
  rw [IntWalk.u64_in (pb + (ps.length : Int)) (by omega)]
  have hX0 := (below_drewN (Below.refl _ w8) 1).trans hX
  have Hm9 := Lib.hid (Hm8.out.below hX0)
  have HJ9 := Lib.hid (HJ8.out.below hX0)
  have KP9 := Lib.hid (Blk.below KP8.out hX0)
  clear hX hX0 HJ8 KP8 Hm8 m0 m1 m2 m3 n0 n1 n2 n3 hz hz2 hS hT
  obtain ⟨m0, m1, m2, m3, -, -, -, -, hz⟩ := KP9.out.c4
  obtain ⟨n0, n1, n2, n3, -, -, -, -, hz2⟩ := HJ9.out.k.c4
  have hS : Holds [(w6.heap.size, 0, .int .u64 pl), (w6.heap.size, 1, .int .u64 pb), (w6.heap.size, 2, .int .u64 pc), (w6.heap.size, 3, .slice q ps.length d), (w.heap.size, 1, .int .u64 pb)] w9 := ⟨m0, m1, m2, m3, n1, trivial⟩
  refine hK.out _ _ hS (fun _ => trivial) ?_
  clear hK
  refine take_S (v := ?v4r) 4 rfl (by kernel_rfl) (by kernel_rfl) (by kernel_rfl) (by kernel_rfl) (fun _ _ _ h => h) hS (fun _ => trivial) rfl (fun w' hq => ?h4r) ?_
  case h4r => obtain ⟨hq0, hq1, hq2, hq3, hq4, -⟩ := hq; change _ = some _ at hq0; change _ = some _ at hq1; change _ = some _ at hq2; change _ = some _ at hq3; change _ = some _ at hq4; go_simp; try with_reducible rfl
  try simp only [Act.put, List.setIfInBounds_toArray, List.set_cons_zero, List.set_cons_succ, List.getElem_toArray, List.getElem_cons_succ, List.getElem_cons_zero]
  refine take_S (v := ?v5r) 5 rfl (by kernel_rfl) (by kernel_rfl) (by kernel_rfl) (by kernel_rfl) (fun _ _ _ h => h) hS (fun _ => trivial) rfl (fun w' hq => ?h5r) ?_
  case h5r => obtain ⟨hq0, hq1, hq2, hq3, hq4, -⟩ := hq; change _ = some _ at hq0; change _ = some _ at hq1; change _ = some _ at hq2; change _ = some _ at hq3; change _ = some _ at hq4; go_simp; try with_reducible rfl
  try simp only [Act.put, List.setIfInBounds_toArray, List.set_cons_zero, List.set_cons_succ, List.getElem_toArray, List.getElem_cons_succ, List.getElem_cons_zero]
  refine take_S (v := ?v6r) 6 rfl (by kernel_rfl) (by kernel_rfl) (by kernel_rfl) (by kernel_rfl) (fun _ _ _ h => h) hS (fun _ => trivial) rfl (fun w' hq => ?h6r) ?_
  case h6r => obtain ⟨hq0, hq1, hq2, hq3, hq4, -⟩ := hq; change _ = some _ at hq0; change _ = some _ at hq1; change _ = some _ at hq2; change _ = some _ at hq3; change _ = some _ at hq4; go_simp; try with_reducible rfl
  try simp only [Act.put, List.setIfInBounds_toArray, List.set_cons_zero, List.set_cons_succ, List.getElem_toArray, List.getElem_cons_succ, List.getElem_cons_zero]
  refine take_S (v := ?v8r) 8 rfl (by kernel_rfl) (by kernel_rfl) (by kernel_rfl) (by kernel_rfl) (fun _ _ _ h => h) hS (fun _ => trivial) rfl (fun w' hq => ?h8r) ?_
  case h8r => obtain ⟨hq0, hq1, hq2, hq3, hq4, -⟩ := hq; change _ = some _ at hq0; change _ = some _ at hq1; change _ = some _ at hq2; change _ = some _ at hq3; change _ = some _ at hq4; go_simp; try with_reducible rfl
  try simp only [Act.put, List.setIfInBounds_toArray, List.set_cons_zero, List.set_cons_succ, List.getElem_toArray, List.getElem_cons_succ, List.getElem_cons_zero]
  refine take_S (v := ?v9r) 9 rfl (by kernel_rfl) (by kernel_rfl) (by kernel_rfl) (by kernel_rfl) (fun _ _ _ h => h) hS (fun _ => trivial) rfl (fun w' hq => ?h9r) ?_
  case h9r => obtain ⟨hq0, hq1, hq2, hq3, hq4, -⟩ := hq; change _ = some _ at hq0; change _ = some _ at hq1; change _ = some _ at hq2; change _ = some _ at hq3; change _ = some _ at hq4; go_simp; try with_reducible rfl
  try simp only [Act.put, List.setIfInBounds_toArray, List.set_cons_zero, List.set_cons_succ, List.getElem_toArray, List.getElem_cons_succ, List.getElem_cons_zero]
  refine take_S (v := ?v10r) 10 rfl (by kernel_rfl) (by kernel_rfl) (by kernel_rfl) (by kernel_rfl) (fun _ _ _ h => h) hS (fun _ => trivial) rfl (fun w' hq => ?h10r) ?_
  case h10r => obtain ⟨hq0, hq1, hq2, hq3, hq4, -⟩ := hq; change _ = some _ at hq0; change _ = some _ at hq1; change _ = some _ at hq2; change _ = some _ at hq3; change _ = some _ at hq4; go_simp; try with_reducible rfl
  try simp only [Act.put, List.setIfInBounds_toArray, List.set_cons_zero, List.set_cons_succ, List.getElem_toArray, List.getElem_cons_succ, List.getElem_cons_zero]
  refine take_S (v := ?v11r) 11 rfl (by kernel_rfl) (by kernel_rfl) (by kernel_rfl) (by kernel_rfl) (fun _ _ _ h => h) hS (fun _ => trivial) rfl (fun w' hq => ?h11r) ?_
  case h11r => obtain ⟨hq0, hq1, hq2, hq3, hq4, -⟩ := hq; change _ = some _ at hq0; change _ = some _ at hq1; change _ = some _ at hq2; change _ = some _ at hq3; change _ = some _ at hq4; go_simp; try with_reducible rfl
  try simp only [Act.put, List.setIfInBounds_toArray, List.set_cons_zero, List.set_cons_succ, List.getElem_toArray, List.getElem_cons_succ, List.getElem_cons_zero]
  rw [Hmx.out]
  refine one_D 7 rfl (by kernel_rfl) (fun KQ hK => ?_)
  go_simp
  refine (At_Base Hm9.out).mono ?_
  rintro x w10 ⟨rfl, rfl⟩
  refine hK.out _ _ hS (fun _ => trivial) ?_
  clear hK
  refine take_S (v := ?v12r) 12 rfl (by kernel_rfl) (by kernel_rfl) (by kernel_rfl) (by kernel_rfl) (fun _ _ _ h => h) hS (fun _ => trivial) rfl (fun w' hq => ?h12r) ?_
  case h12r => obtain ⟨hq0, hq1, hq2, hq3, hq4, -⟩ := hq; change _ = some _ at hq0; change _ = some _ at hq1; change _ = some _ at hq2; change _ = some _ at hq3; change _ = some _ at hq4; go_simp; try with_reducible rfl
  try simp only [Act.put, List.setIfInBounds_toArray, List.set_cons_zero, List.set_cons_succ, List.getElem_toArray, List.getElem_cons_succ, List.getElem_cons_zero]
  refine take_S (v := ?v13r) 13 rfl (by kernel_rfl) (by kernel_rfl) (by kernel_rfl) (by kernel_rfl) (fun _ _ _ h => h) hS (fun _ => trivial) rfl (fun w' hq => ?h13r) ?_
  case h13r => obtain ⟨hq0, hq1, hq2, hq3, hq4, -⟩ := hq; change _ = some _ at hq0; change _ = some _ at hq1; change _ = some _ at hq2; change _ = some _ at hq3; change _ = some _ at hq4; go_simp; try with_reducible rfl
  try simp only [Act.put, List.setIfInBounds_toArray, List.set_cons_zero, List.set_cons_succ, List.getElem_toArray, List.getElem_cons_succ, List.getElem_cons_zero]
  refine done_D (by kernel_rfl) ?_ _
  clear hS m0 m1 m2 m3 n0 n1 n2 n3 hz hz2
  go_wp2_with fail
  refine (At_Base Hm9.out).mono ?_
  rintro x w10 ⟨rfl, rfl⟩
  go_wp2_with fail
  go_loopw [17] (fun i wr => ∃ k : Nat, k ≤ ds.length ∧ i = .int .u64 (M + 1 + k) ∧ PJ w S pl pb pc (.slice q ps.length d) (.slice q2 es.length d2) ps es wr ∧ Blk wr w6.heap.size 31 #[.int .u64 pl, .int .u64 pb, .int .u64 pc, .slice q ps.length d] ∧ At w wr gm M ds) (fun i _ => (M + 1 + ds.length - intOf i).toNat)
  case atStart => exact ⟨0, Nat.zero_le _, by simp, HJ9.out, KP9.out, Hm9.out⟩
  case round =>
    clear HJ9 KP9 Hm9
    obtain ⟨k, hk, rfl, hj, hkp, hm9⟩ := hrel
    have HJ1 := Lib.hid hj
    have KP1 := Lib.hid hkp
    have Hm1 := Lib.hid hm9
    clear hj hkp hm9
    by_cases hlt : k < ds.length
    · obtain ⟨J, hJ⟩ : ∃ J, J = K + k := ⟨_, rfl⟩
      have hJl : J < ps.length := by omega
      obtain ⟨cs, hr, hE⟩ := HJ1.out.p
      obtain ⟨bb, off, he, _, _, hcell⟩ := Rd.addr hr (by omega)
      subst he
      have hfk : ds[k]? = some ds[k] := by exact List.getElem?_eq_getElem hlt
      obtain ⟨s, hs, hq⟩ := hE.2 J ds[k] (by rw [hJ, ← Hd.out]; exact hfk)
      obtain ⟨e0, e1, e2, e3⟩ := cells4 hcell hs
      obtain ⟨sp, sc, rfl⟩ := Rd.slice hq
      have Hq := Lib.hid hq
      have E0 := Lib.hid e0
      have E1 := Lib.hid e1
      have E2 := Lib.hid e2
      have E3 := Lib.hid e3
      have Hfk := Lib.hid hfk
      have hj1 : M + 1 + (k : Int) - pb = (J : Int) + 1 := by omega
      have HJn := Lib.hid (show IntKind.u64.wrap (M + 1 + (k : Int) - pb) = (J : Int) + 1 from by rw [IntWalk.u64_in _ (by omega)]; exact hj1)
      have HJ0 := Lib.hid (show IntKind.u64.wrap (J : Int) = (J : Int) from IntWalk.u64_in _ (by omega))
      clear hr hE hcell hs hq e0 e1 e2 e3 hfk hj1 hJ
      go_wp2_with fail
      refine (At_Op Hm1.out OkM.out).mono ?_
      rintro x w10 ⟨rfl, rfl⟩
      go_wp2_with fail
      refine (At_Get' (j := k) Hm1.out OkM.out Hfk.out (by omega)).mono ?_
      rintro x w2 ⟨px, cx, rfl, hox, hX2⟩
      have kx := Blk.new w2 44 #[.int .u64 ds[k].t, .int .u32 ds[k].c, .int .u64 ds[k].r, .slice px ds[k].cmd.length cx]
      have hXa := hX2.alloc (by exact hX2.size) (.cells #[.int .u64 ds[k].t, .int .u32 ds[k].c, .int .u64 ds[k].r, .slice px ds[k].cmd.length cx] 44)
      have Hx := Lib.hid (Rd.alloc (Rd.of_own hox) (by decide) (.cells #[.int .u64 ds[k].t, .int .u32 ds[k].c, .int .u64 ds[k].r, .slice px ds[k].cmd.length cx] 44))
      have Hq2 := Lib.hid (Rd.below Hq.out (by decide) hXa)
      have HJ2 := Lib.hid (HJ1.out.below hXa)
      have KP2 := Lib.hid (Blk.below KP1.out hXa)
      have Hm2 := Lib.hid (Hm1.out.below hXa)
      have i0 := (hXa.cell (p := ⟨bb, off + J * 4, none⟩) (lt_of_cell E0.out)).trans E0.out
      have i1 := (hXa.cell (p := ⟨bb, off + J * 4 + 1, none⟩) (lt_of_cell E1.out)).trans E1.out
      have i2 := (hXa.cell (p := ⟨bb, off + J * 4 + 2, none⟩) (lt_of_cell E2.out)).trans E2.out
      have i3 := (hXa.cell (p := ⟨bb, off + J * 4 + 3, none⟩) (lt_of_cell E3.out)).trans E3.out
      clear hox hX2 hXa HJ1 KP1 Hm1 Hq E0 E1 E2 E3
      unfold entVal
      go_wp2_with fail
      obtain ⟨x0, x1, x2, x3, -, -, -, -, -⟩ := kx.c4
      obtain ⟨n0, n1, n2, n3, -, -, -, -, hz2⟩ := HJ2.out.k.c4
      generalize hWg : w2.alloc (.cells #[.int .u64 ds[k].t, .int .u32 ds[k].c, .int .u64 ds[k].r, .slice px ds[k].cmd.length cx] 44) = W at *
      clear hWg kx
      have hS : Holds [(w2.heap.size, 0, .int .u64 ds[k].t), (w2.heap.size, 1, .int .u32 ds[k].c), (w2.heap.size, 2, .int .u64 ds[k].r), (w2.heap.size, 3, .slice px ds[k].cmd.length cx), (bb, off + J * 4, .int .u64 ds[k].t), (bb, off + J * 4 + 1, .int .u32 ds[k].c), (bb, off + J * 4 + 2, .int .u64 ds[k].r), (bb, off + J * 4 + 3, .slice sp ds[k].cmd.length sc), (w.heap.size, 1, .int .u64 pb), (w.heap.size, 3, .slice (some ⟨bb, off, none⟩) ps.length d)] W.drew := ⟨x0, x1, x2, x3, i0, i1, i2, i3, n1, n3, trivial⟩
      have hT : Hold0 W.drew := trivial
      refine begin_D [] (by kernel_rfl) hS (fun _ => hT) ?_
      refine take_S (v := ?v0s) 0 rfl (by kernel_rfl) (by kernel_rfl) (by kernel_rfl) (by kernel_rfl) (fun _ _ _ h => h) hS (fun _ => trivial) rfl (fun w' hq => ?h0s) ?_
      case h0s => obtain ⟨hq0, hq1, hq2, hq3, hq4, hq5, hq6, hq7, hq8, hq9, -⟩ := hq; change _ = some _ at hq0; change _ = some _ at hq1; change _ = some _ at hq2; change _ = some _ at hq3; change _ = some _ at hq4; change _ = some _ at hq5; change _ = some _ at hq6; change _ = some _ at hq7; change _ = some _ at hq8; change _ = some _ at hq9; go_simp; try with_reducible rfl
      try simp only [Act.put, List.setIfInBounds_toArray, List.set_cons_zero, List.set_cons_succ, List.getElem_toArray, List.getElem_cons_succ, List.getElem_cons_zero]
      refine take_S (v := ?v1s) 1 rfl (by kernel_rfl) (by kernel_rfl) (by kernel_rfl) (by kernel_rfl) (fun _ _ _ h => h) hS (fun _ => trivial) rfl (fun w' hq => ?h1s) ?_
      case h1s => obtain ⟨hq0, hq1, hq2, hq3, hq4, hq5, hq6, hq7, hq8, hq9, -⟩ := hq; change _ = some _ at hq0; change _ = some _ at hq1; change _ = some _ at hq2; change _ = some _ at hq3; change _ = some _ at hq4; change _ = some _ at hq5; change _ = some _ at hq6; change _ = some _ at hq7; change _ = some _ at hq8; change _ = some _ at hq9; go_simp; try with_reducible rfl
      try simp only [Act.put, List.setIfInBounds_toArray, List.set_cons_zero, List.set_cons_succ, List.getElem_toArray, List.getElem_cons_succ, List.getElem_cons_zero]
      refine take_S (v := ?v2s) 2 rfl (by kernel_rfl) (by kernel_rfl) (by kernel_rfl) (by kernel_rfl) (fun _ _ _ h => h) hS (fun _ => trivial) rfl (fun w' hq => ?h2s) ?_
      case h2s => obtain ⟨hq0, hq1, hq2, hq3, hq4, hq5, hq6, hq7, hq8, hq9, -⟩ := hq; change _ = some _ at hq0; change _ = some _ at hq1; change _ = some _ at hq2; change _ = some _ at hq3; change _ = some _ at hq4; change _ = some _ at hq5; change _ = some _ at hq6; change _ = some _ at hq7; change _ = some _ at hq8; change _ = some _ at hq9; go_simp; try with_reducible rfl
      try simp only [Act.put, List.setIfInBounds_toArray, List.set_cons_zero, List.set_cons_succ, List.getElem_toArray, List.getElem_cons_succ, List.getElem_cons_zero]
      refine take_S (v := ?v3s) 3 rfl (by kernel_rfl) (by kernel_rfl) (by kernel_rfl) (by kernel_rfl) (fun _ _ _ h => h) hS (fun _ => trivial) rfl (fun w' hq => ?h3s) ?_
      case h3s => obtain ⟨hq0, hq1, hq2, hq3, hq4, hq5, hq6, hq7, hq8, hq9, -⟩ := hq; change _ = some _ at hq0; change _ = some _ at hq1; change _ = some _ at hq2; change _ = some _ at hq3; change _ = some _ at hq4; change _ = some _ at hq5; change _ = some _ at hq6; change _ = some _ at hq7; change _ = some _ at hq8; change _ = some _ at hq9; go_simp; try with_reducible rfl
      try simp only [Act.put, List.setIfInBounds_toArray, List.set_cons_zero, List.set_cons_succ, List.getElem_toArray, List.getElem_cons_succ, List.getElem_cons_zero]
      refine take_S (v := ?v4s) 4 rfl (by kernel_rfl) (by kernel_rfl) (by kernel_rfl) (by kernel_rfl) (fun _ _ _ h => h) hS (fun _ => trivial) rfl (fun w' hq => ?h4s) ?_
      case h4s => obtain ⟨hq0, hq1, hq2, hq3, hq4, hq5, hq6, hq7, hq8, hq9, -⟩ := hq; change _ = some _ at hq0; change _ = some _ at hq1; change _ = some _ at hq2; change _ = some _ at hq3; change _ = some _ at hq4; change _ = some _ at hq5; change _ = some _ at hq6; change _ = some _ at hq7; change _ = some _ at hq8; change _ = some _ at hq9; go_simp; try with_reducible rfl
      try simp only [Act.put, List.setIfInBounds_toArray, List.set_cons_zero, List.set_cons_succ, List.getElem_toArray, List.getElem_cons_succ, List.getElem_cons_zero]
      refine take_S (v := ?v5s) 5 rfl (by kernel_rfl) (by kernel_rfl) (by kernel_rfl) (by kernel_rfl) (fun _ _ _ h => h) hS (fun _ => trivial) rfl (fun w' hq => ?h5s) ?_
      case h5s => obtain ⟨hq0, hq1, hq2, hq3, hq4, hq5, hq6, hq7, hq8, hq9, -⟩ := hq; change _ = some _ at hq0; change _ = some _ at hq1; change _ = some _ at hq2; change _ = some _ at hq3; change _ = some _ at hq4; change _ = some _ at hq5; change _ = some _ at hq6; change _ = some _ at hq7; change _ = some _ at hq8; change _ = some _ at hq9; go_simp; try with_reducible rfl
      try simp only [Act.put, List.setIfInBounds_toArray, List.set_cons_zero, List.set_cons_succ, List.getElem_toArray, List.getElem_cons_succ, List.getElem_cons_zero]
      refine take_S (v := ?v6s) 6 rfl (by kernel_rfl) (by kernel_rfl) (by kernel_rfl) (by kernel_rfl) (fun _ _ _ h => h) hS (fun _ => trivial) rfl (fun w' hq => ?h6s) ?_
      case h6s => obtain ⟨hq0, hq1, hq2, hq3, hq4, hq5, hq6, hq7, hq8, hq9, -⟩ := hq; change _ = some _ at hq0; change _ = some _ at hq1; change _ = some _ at hq2; change _ = some _ at hq3; change _ = some _ at hq4; change _ = some _ at hq5; change _ = some _ at hq6; change _ = some _ at hq7; change _ = some _ at hq8; change _ = some _ at hq9; go_simp; try with_reducible rfl
      try simp only [Act.put, List.setIfInBounds_toArray, List.set_cons_zero, List.set_cons_succ, List.getElem_toArray, List.getElem_cons_succ, List.getElem_cons_zero]
      refine take_S (v := ?v7s) 7 rfl (by kernel_rfl) (by kernel_rfl) (by kernel_rfl) (by kernel_rfl) (fun _ _ _ h => h) hS (fun _ => trivial) rfl (fun w' hq => ?h7s) ?_
      case h7s => obtain ⟨hq0, hq1, hq2, hq3, hq4, hq5, hq6, hq7, hq8, hq9, -⟩ := hq; change _ = some _ at hq0; change _ = some _ at hq1; change _ = some _ at hq2; change _ = some _ at hq3; change _ = some _ at hq4; change _ = some _ at hq5; change _ = some _ at hq6; change _ = some _ at hq7; change _ = some _ at hq8; change _ = some _ at hq9; go_simp; try with_reducible rfl
      try simp only [Act.put, List.setIfInBounds_toArray, List.set_cons_zero, List.set_cons_succ, List.getElem_toArray, List.getElem_cons_succ, List.getElem_cons_zero]
      refine take_S (v := ?v8s) 8 rfl (by kernel_rfl) (by kernel_rfl) (by kernel_rfl) (by kernel_rfl) (fun _ _ _ h => h) hS (fun _ => trivial) rfl (fun w' hq => ?h8s) ?_
      case h8s => obtain ⟨hq0, hq1, hq2, hq3, hq4, hq5, hq6, hq7, hq8, hq9, -⟩ := hq; change _ = some _ at hq0; change _ = some _ at hq1; change _ = some _ at hq2; change _ = some _ at hq3; change _ = some _ at hq4; change _ = some _ at hq5; change _ = some _ at hq6; change _ = some _ at hq7; change _ = some _ at hq8; change _ = some _ at hq9; go_simp; try with_reducible rfl
      try simp only [Act.put, List.setIfInBounds_toArray, List.set_cons_zero, List.set_cons_succ, List.getElem_toArray, List.getElem_cons_succ, List.getElem_cons_zero]
      refine take_S (v := ?v9s) 9 rfl (by kernel_rfl) (by kernel_rfl) (by kernel_rfl) (by kernel_rfl) (fun _ _ _ h => h) hS (fun _ => trivial) rfl (fun w' hq => ?h9s) ?_
      case h9s => obtain ⟨hq0, hq1, hq2, hq3, hq4, hq5, hq6, hq7, hq8, hq9, -⟩ := hq; change _ = some _ at hq0; change _ = some _ at hq1; change _ = some _ at hq2; change _ = some _ at hq3; change _ = some _ at hq4; change _ = some _ at hq5; change _ = some _ at hq6; change _ = some _ at hq7; change _ = some _ at hq8; change _ = some _ at hq9; go_simp; try with_reducible rfl
      try simp only [Act.put, List.setIfInBounds_toArray, List.set_cons_zero, List.set_cons_succ, List.getElem_toArray, List.getElem_cons_succ, List.getElem_cons_zero]
      rw [HJn.out]
      refine take_S (v := ?v10s) 10 rfl (by kernel_rfl) (by kernel_rfl) (by kernel_rfl) (by kernel_rfl) (fun _ _ _ h => h) hS (fun _ => trivial) rfl (fun w' hq => ?h10s) ?_
      case h10s => obtain ⟨hq0, hq1, hq2, hq3, hq4, hq5, hq6, hq7, hq8, hq9, -⟩ := hq; change _ = some _ at hq0; change _ = some _ at hq1; change _ = some _ at hq2; change _ = some _ at hq3; change _ = some _ at hq4; change _ = some _ at hq5; change _ = some _ at hq6; change _ = some _ at hq7; change _ = some _ at hq8; change _ = some _ at hq9; go_simp; try with_reducible rfl
      try simp only [Act.put, List.setIfInBounds_toArray, List.set_cons_zero, List.set_cons_succ, List.getElem_toArray, List.getElem_cons_succ, List.getElem_cons_zero]
      rw [HJ0.out]
      refine take_S (v := ?v11s) 11 rfl (by kernel_rfl) (by kernel_rfl) (by kernel_rfl) (by kernel_rfl) (fun _ _ _ h => h) hS (fun _ => trivial) rfl (fun w' hq => ?h11s) ?_
      case h11s => obtain ⟨hq0, hq1, hq2, hq3, hq4, hq5, hq6, hq7, hq8, hq9, -⟩ := hq; change _ = some _ at hq0; change _ = some _ at hq1; change _ = some _ at hq2; change _ = some _ at hq3; change _ = some _ at hq4; change _ = some _ at hq5; change _ = some _ at hq6; change _ = some _ at hq7; change _ = some _ at hq8; change _ = some _ at hq9; go_simp; try with_reducible rfl
      try simp only [Act.put, List.setIfInBounds_toArray, List.set_cons_zero, List.set_cons_succ, List.getElem_toArray, List.getElem_cons_succ, List.getElem_cons_zero]
      refine take_S (v := ?v12s) 12 rfl (by kernel_rfl) (by kernel_rfl) (by kernel_rfl) (by kernel_rfl) (fun _ _ _ h => h) hS (fun _ => trivial) rfl (fun w' hq => ?h12s) ?_
      case h12s => obtain ⟨hq0, hq1, hq2, hq3, hq4, hq5, hq6, hq7, hq8, hq9, -⟩ := hq; change _ = some _ at hq0; change _ = some _ at hq1; change _ = some _ at hq2; change _ = some _ at hq3; change _ = some _ at hq4; change _ = some _ at hq5; change _ = some _ at hq6; change _ = some _ at hq7; change _ = some _ at hq8; change _ = some _ at hq9; go_simp; try with_reducible rfl
      try simp only [Act.put, List.setIfInBounds_toArray, List.set_cons_zero, List.set_cons_succ, List.getElem_toArray, List.getElem_cons_succ, List.getElem_cons_zero]
      refine one_D 13 rfl (by kernel_rfl) (fun KQ hK => ?_)
      go_simp
      refine (log_Same (e := ds[k]) (f := ds[k]) (Rd.drew Hx.out) (Rd.drew Hq2.out)).mono ?_
      rintro x w5 ⟨rfl, hX5⟩
      rw [sameB_self]
      have g : ∀ b o v, W.cell? ⟨b, o, none⟩ = some v → w5.cell? ⟨b, o, none⟩ = some v := fun b o v h => (hX5.cell (p := ⟨b, o, none⟩) (lt_of_cell h)).trans h
      have hS1 : Holds [(w2.heap.size, 0, .int .u64 ds[k].t), (w2.heap.size, 1, .int .u32 ds[k].c), (w2.heap.size, 2, .int .u64 ds[k].r), (w2.heap.size, 3, .slice px ds[k].cmd.length cx), (bb, off + J * 4, .int .u64 ds[k].t), (bb, off + J * 4 + 1, .int .u32 ds[k].c), (bb, off + J * 4 + 2, .int .u64 ds[k].r), (bb, off + J * 4 + 3, .slice sp ds[k].cmd.length sc), (w.heap.size, 1, .int .u64 pb), (w.heap.size, 3, .slice (some ⟨bb, off, none⟩) ps.length d)] w5 := ⟨g _ _ _ x0, g _ _ _ x1, g _ _ _ x2, g _ _ _ x3, g _ _ _ i0, g _ _ _ i1, g _ _ _ i2, g _ _ _ i3, g _ _ _ n1, g _ _ _ n3, trivial⟩
      have HX5 := Lib.hid ((below_drewN (Below.refl _ W) 1).trans hX5)
      refine hK.out _ _ hS1 (fun _ => trivial) ?_
      clear hK hS hX5 g
      refine take_S (v := ?v14s) 14 rfl (by kernel_rfl) (by kernel_rfl) (by kernel_rfl) (by kernel_rfl) (fun _ _ _ h => h) hS1 (fun _ => trivial) rfl (fun w' hq => ?h14s) ?_
      case h14s => obtain ⟨hq0, hq1, hq2, hq3, hq4, hq5, hq6, hq7, hq8, hq9, -⟩ := hq; change _ = some _ at hq0; change _ = some _ at hq1; change _ = some _ at hq2; change _ = some _ at hq3; change _ = some _ at hq4; change _ = some _ at hq5; change _ = some _ at hq6; change _ = some _ at hq7; change _ = some _ at hq8; change _ = some _ at hq9; go_simp; try with_reducible rfl
      try simp only [Act.put, List.setIfInBounds_toArray, List.set_cons_zero, List.set_cons_succ, List.getElem_toArray, List.getElem_cons_succ, List.getElem_cons_zero]
      refine take_S (v := ?v15s) 15 rfl (by kernel_rfl) (by kernel_rfl) (by kernel_rfl) (by kernel_rfl) (fun _ _ _ h => h) hS1 (fun _ => trivial) rfl (fun w' hq => ?h15s) ?_
      case h15s => obtain ⟨hq0, hq1, hq2, hq3, hq4, hq5, hq6, hq7, hq8, hq9, -⟩ := hq; change _ = some _ at hq0; change _ = some _ at hq1; change _ = some _ at hq2; change _ = some _ at hq3; change _ = some _ at hq4; change _ = some _ at hq5; change _ = some _ at hq6; change _ = some _ at hq7; change _ = some _ at hq8; change _ = some _ at hq9; go_simp; try with_reducible rfl
      try simp only [Act.put, List.setIfInBounds_toArray, List.set_cons_zero, List.set_cons_succ, List.getElem_toArray, List.getElem_cons_succ, List.getElem_cons_zero]
      refine done_D (by kernel_rfl) ?_ _
      clear hS1 x0 x1 x2 x3 i0 i1 i2 i3 n0 n1 n2 n3 hz2 hT
      have HJ3 := Lib.hid (HJ2.out.below HX5.out)
      have KP3 := Lib.hid (Blk.below KP2.out HX5.out)
      have Hm3 := Lib.hid (Hm2.out.below HX5.out)
      clear HX5 HJ2 KP2 Hm2 Hx Hq2
      go_wp2_with fail
      go_roundw
      case rel => exact ⟨k + 1, by omega, by go_num, HJ3.out, KP3.out, Hm3.out⟩
      case measure => simp [intOf]; omega
    · obtain rfl : k = ds.length := by omega
      go_wp2_with fail
      refine (At_Op Hm1.out OkM.out).mono ?_
      rintro x w10 ⟨rfl, rfl⟩
      have t1 : decide (M + 1 + (ds.length : Int) ≤ M + (ds.length : Int)) = false := by simp; omega
      obtain ⟨m0, m1, m2, m3, -, -, -, -, hz⟩ := KP1.out.c4
      go_wp2_with fail
      refine (pack_Join Hm1.out OkM.out HJ1.out.p F1.out Hmy.out hb0 HM.out (Int.le_refl _) (.inl rfl) hK hM1 hps).mono ?_
      rintro x w2 ⟨gn, rfl, hAt, -, hX⟩
      rw [Hds.out] at hAt
      have Hn2 := Lib.hid hAt
      have Hm2 := Lib.hid (Hm1.out.below hX)
      have HJ2 := Lib.hid (HJ1.out.below hX)
      clear hAt hX Hm1 HJ1 KP1 m0 m1 m2 m3 hz t1
      go_wp2_with fail
      refine (At_Base Hn2.out).mono ?_
      rintro x w3 ⟨rfl, rfl⟩
      go_wp2_with fail
      refine (At_From' Hn2.out OkM.out rfl).mono ?_
      rintro x w3 ⟨p3, c3, rfl, ho, hX⟩
      have HO3 := Lib.hid (EntsOwn.rd ho)
      have Hn3 := Lib.hid (Hn2.out.below hX)
      have Hm3 := Lib.hid (Hm2.out.below hX)
      have HJ3 := Lib.hid (HJ2.out.below hX)
      clear ho hX Hn2 Hm2 HJ2
      go_wp2_with fail
      refine (At_Base Hm3.out).mono ?_
      rintro x w4 ⟨rfl, rfl⟩
      go_wp2_with fail
      refine (At_From' Hm3.out OkM.out rfl).mono ?_
      rintro x w4 ⟨p4, c4, rfl, ho, hX⟩
      have HP4 := Lib.hid (EntsOwn.rd ho)
      have HO4 := Lib.hid (EntsRd.below HO3.out hX)
      have Hn4 := Lib.hid (Hn3.out.below hX)
      have Hm4 := Lib.hid (Hm3.out.below hX)
      have HJ4 := Lib.hid (HJ3.out.below hX)
      clear ho hX Hn3 Hm3 HJ3 HO3
      go_wp2_with fail
      refine (At_Base Hn4.out).mono ?_
      rintro x w5 ⟨rfl, rfl⟩
      go_wp2_with fail
      refine (At_Base Hm4.out).mono ?_
      rintro x w5 ⟨rfl, rfl⟩
      go_wp2_with fail
      refine (ref_All HO4.out HP4.out (by omega)).mono ?_
      rintro x w5 ⟨rfl, hX⟩
      have HJ5 := Lib.hid (HJ4.out.below hX)
      clear hX HJ4 HO4 HP4 Hn4 Hm4
      go_wp2_with fail
      refine (wakes_true).mono ?_
      rintro x w6 ⟨rfl, hX⟩
      have HJ6 := Lib.hid (HJ5.out.below hX)
      clear hX HJ5
      go_wp2_with fail
      go_ret
      exact ⟨rfl, HJ6.out.b⟩
end Go.Proofs.Yteijpcedggkdpaa
