/-
  pack.Join: the contract. Condition: a log in new memory, in bounds; a pack whose entries can be read.
-/
import Derived.Test.YteijpcedggkdpaaOf
import Derived.BigQuiet
import Derived.Deep.QuietTactic
namespace Go.Proofs.Yteijpcedggkdpaa
open Go.RowKit
set_option linter.unusedSimpArgs false
set_option linter.unusedVariables false

set_option maxHeartbeats 1600000 in
theorem pack_Join {W0 w : World} {S : Nat → Prop} {l K : Nat} {m a b c M : Int} {v : Value} {es ps : List Ent} (h : At W0 w l m es) (ok : LogOk m es) (hE : EntsRd w S v ps) (hf : Fits ps) (hm : mayB a b c ps = true) (hb0 : 0 ≤ b)
    (hM : M = b + K) (hMm : m ≤ M) (hMx : M = m ∨ M = b) (hK : K ≤ ps.length) (hM1 : M ≤ 1099511627776) (hn : ps.length ≤ 64) :
    Calls Try.prog 8 #[.pointer (some ⟨l, 0, none⟩), packVal a b c v] w fun x w' => ∃ g, x = .returned (.tuple #[.pointer (some ⟨g, 0, none⟩), .int .i64 0]) ∧ At W0 w' g M (ps.drop K) ∧ w.heap.size ≤ g ∧ Below w.heap.size w w' := by
  obtain ⟨cs, hr, -⟩ := id hE
  obtain ⟨q, d, rfl⟩ := Rd.slice hr
  have hB1 : Below w.heap.size w (w.alloc (.cells #[.int .u64 a, .int .u64 b, .int .u64 c, .slice q ps.length d] 31)) := (Below.refl _ w).alloc (Nat.le_refl _) _
  have H1 := Lib.hid (h.below hB1)
  have K1 := Lib.hid (Blk.new w 31 #[.int .u64 a, .int .u64 b, .int .u64 c, .slice q ps.length d])
  have HE1 := Lib.hid (EntsRd.below hE hB1)
  have HB1 := Lib.hid hB1
  have Hok := Lib.hid ok
  have Hm := Lib.hid hm
  have hlow := ok.low
  have hhigh := ok.high
  clear h ok hm hB1 hE hr
  unfold packVal
  go_enter Try.func8, Try.ntmps8
  go_wp2_with fail
  generalize w.alloc (.cells #[.int .u64 a, .int .u64 b, .int .u64 c, .slice q ps.length d] 31) = W1 at *
  obtain ⟨m0, m1, m2, m3, -, -, -, -, hz⟩ := K1.out.c4
  have hS : Holds [(w.heap.size, 0, .int .u64 a), (w.heap.size, 1, .int .u64 b), (w.heap.size, 2, .int .u64 c), (w.heap.size, 3, .slice q ps.length d)] W1.drew := ⟨m0, m1, m2, m3, trivial⟩
  have hT : Hold0 W1.drew := trivial
  refine begin_D [] (by kernel_rfl) hS (fun _ => hT) ?_
  refine take_S (v := ?v0j) 0 rfl (by kernel_rfl) (by kernel_rfl) (by kernel_rfl) (by kernel_rfl) (fun _ _ _ h => h) hS (fun _ => trivial) rfl (fun w' hq => ?h0j) ?_
  case h0j => obtain ⟨hq0, hq1, hq2, hq3, -⟩ := hq; change _ = some _ at hq0; change _ = some _ at hq1; change _ = some _ at hq2; change _ = some _ at hq3; go_simp; try with_reducible rfl
  try simp only [Act.put, List.setIfInBounds_toArray, List.set_cons_zero, List.set_cons_succ, List.getElem_toArray, List.getElem_cons_succ, List.getElem_cons_zero]
  refine take_S (v := ?v2j) 2 rfl (by kernel_rfl) (by kernel_rfl) (by kernel_rfl) (by kernel_rfl) (fun _ _ _ h => h) hS (fun _ => trivial) rfl (fun w' hq => ?h2j) ?_
  case h2j => obtain ⟨hq0, hq1, hq2, hq3, -⟩ := hq; change _ = some _ at hq0; change _ = some _ at hq1; change _ = some _ at hq2; change _ = some _ at hq3; go_simp; try with_reducible rfl
  try simp only [Act.put, List.setIfInBounds_toArray, List.set_cons_zero, List.set_cons_succ, List.getElem_toArray, List.getElem_cons_succ, List.getElem_cons_zero]
  refine take_S (v := ?v3j) 3 rfl (by kernel_rfl) (by kernel_rfl) (by kernel_rfl) (by kernel_rfl) (fun _ _ _ h => h) hS (fun _ => trivial) rfl (fun w' hq => ?h3j) ?_
  case h3j => obtain ⟨hq0, hq1, hq2, hq3, -⟩ := hq; change _ = some _ at hq0; change _ = some _ at hq1; change _ = some _ at hq2; change _ = some _ at hq3; go_simp; try with_reducible rfl
  try simp only [Act.put, List.setIfInBounds_toArray, List.set_cons_zero, List.set_cons_succ, List.getElem_toArray, List.getElem_cons_succ, List.getElem_cons_zero]
  refine one_D 1 rfl (by kernel_rfl) (fun KQ hK => ?_)
  go_simp
  have H1d := Lib.hid (H1.out.below (below_drewN (Below.refl _ W1) 1))
  refine (At_Base H1d.out).mono ?_
  rintro x w2 ⟨rfl, rfl⟩
  have hS1 : Holds [(w.heap.size, 0, .int .u64 a), (w.heap.size, 1, .int .u64 b), (w.heap.size, 2, .int .u64 c), (w.heap.size, 3, .slice q ps.length d)] W1.drew := ⟨m0, m1, m2, m3, trivial⟩
  refine hK.out _ _ hS1 (fun _ => trivial) ?_
  clear hK hS
  refine take_S (v := ?v4j) 4 rfl (by kernel_rfl) (by kernel_rfl) (by kernel_rfl) (by kernel_rfl) (fun _ _ _ h => h) hS1 (fun _ => trivial) rfl (fun w' hq => ?h4j) ?_
  case h4j => obtain ⟨hq0, hq1, hq2, hq3, -⟩ := hq; change _ = some _ at hq0; change _ = some _ at hq1; change _ = some _ at hq2; change _ = some _ at hq3; go_simp; try with_reducible rfl
  try simp only [Act.put, List.setIfInBounds_toArray, List.set_cons_zero, List.set_cons_succ, List.getElem_toArray, List.getElem_cons_succ, List.getElem_cons_zero]
  refine take_S (v := ?v5j) 5 rfl (by kernel_rfl) (by kernel_rfl) (by kernel_rfl) (by kernel_rfl) (fun _ _ _ h => h) hS1 (fun _ => trivial) rfl (fun w' hq => ?h5j) ?_
  case h5j => obtain ⟨hq0, hq1, hq2, hq3, -⟩ := hq; change _ = some _ at hq0; change _ = some _ at hq1; change _ = some _ at hq2; change _ = some _ at hq3; go_simp; try with_reducible rfl
  try simp only [Act.put, List.setIfInBounds_toArray, List.set_cons_zero, List.set_cons_succ, List.getElem_toArray, List.getElem_cons_succ, List.getElem_cons_zero]
  refine done_D (by kernel_rfl) ?_ _
  clear hS1
  have hmx : (if m < b then b else m) = M := by split <;> omega
  rw [hmx]
  clear hmx
  have HB2 := Lib.hid (below_drewN HB1.out 1)
  have HE2 := Lib.hid (EntsRd.below HE1.out (below_drewN (Below.refl _ W1) 1))
  have K2 := Lib.hid (Blk.below K1.out (below_drewN (Below.refl _ W1) 1))
  clear HB1 HE1 K1 H1 m0 m1 m2 m3 hz
  go_wp2_with fail
  have H2 := Lib.hid (show At W0 (W1.drewN 1) l m es from H1d.out)
  clear H1d
  generalize W1.drewN 1 = W2 at *
  refine (At_Base H2.out).mono ?_
  rintro x w3 ⟨rfl, rfl⟩
  go_wp2_with fail
  refine (At_From' H2.out Hok.out rfl).mono ?_
  rintro x w3 ⟨p1, c1, rfl, -, hX⟩
  have HB3 := Lib.hid (HB2.out.trans (hX.mono HB2.out.size))
  have HE3 := Lib.hid (EntsRd.below HE2.out hX)
  have K3 := Lib.hid (Blk.below K2.out hX)
  have H3 := Lib.hid (H2.out.below hX)
  clear hX HB2 HE2 K2 H2
  obtain ⟨m0, m1, m2, m3, -, -, -, -, hz⟩ := K3.out.c4
  go_wp2_with fail
  refine (pack_May HE3.out (by omega) hb0).mono ?_
  rintro x w4 ⟨rfl, hX⟩
  rw [Hm.out]
  have HB4 := Lib.hid (HB3.out.trans (hX.mono HB3.out.size))
  have HE4 := Lib.hid (EntsRd.below HE3.out hX)
  have K4 := Lib.hid (Blk.below K3.out hX)
  have H4 := Lib.hid (H3.out.below hX)
  clear hX HB3 HE3 K3 H3 m0 m1 m2 m3 hz
  obtain ⟨m0, m1, m2, m3, -, -, -, -, hz⟩ := K4.out.c4
  go_wp2_with fail
  refine (pack_Op (by omega)).mono ?_
  rintro x w5 ⟨rfl, hX⟩
  rw [IntWalk.u64_in (b + (ps.length : Int)) (by omega)]
  have HB5 := Lib.hid (HB4.out.trans (hX.mono HB4.out.size))
  have HE5 := Lib.hid (EntsRd.below HE4.out hX)
  have K5 := Lib.hid (Blk.below K4.out hX)
  have H5 := Lib.hid (H4.out.below hX)
  clear hX HB4 HE4 K4 H4 m0 m1 m2 m3 hz
  obtain ⟨m0, m1, m2, m3, -, -, -, -, hz⟩ := K5.out.c4
  have dM : decide (b + (ps.length : Int) < M) = false := by simp; omega
  have q1 : IntKind.u64.wrap (M - b) = M - b := IntWalk.u64_in _ (by omega)
  have q2 : (M - b).toNat = K := by omega
  have hle := Rd.le HE5.out.choose_spec.1
  have hdl : ps.length ≤ d := by obtain ⟨_, hr, _⟩ := HE5.out; obtain ⟨_, _, _, h, h1, _⟩ := hr; injection h with _ _ h; omega
  unfold maxLen at hle
  have Hcut := EntsRd.cut HE5.out hK
  by_cases hdK : d = K
  · rw [if_pos hdK] at Hcut
    subst hdK
    have Hc := Lib.hid Hcut
    clear Hcut
    go_wp2_with fail
    have q3 : (b + (d : Int) - b).toNat = d := by omega
    rw [q3]
    with_reducible refine (log_New Hc.out (hf.drop d) (by rw [List.length_drop]; omega) (by omega)).mono ?_
    rintro x w6 ⟨g, rfl, hN⟩
    have HN := Lib.hid hN
    clear hN
    go_wp2_with fail
    go_ret2
    exact ⟨g, rfl, by rw [hM]; exact At.new HN.out H5.out.2.2, Nat.le_trans HB5.out.size HN.out.2.1, HB5.out.trans (HN.out.2.2.2.mono HB5.out.size)⟩
  · rw [if_neg hdK] at Hcut
    have Hc := Lib.hid Hcut
    clear Hcut
    go_wp2_with fail
    have q3 : (b + (K : Int) - b).toNat = K := by omega
    rw [q3]
    with_reducible refine (log_New Hc.out (hf.drop K) (by rw [List.length_drop]; omega) (by omega)).mono ?_
    rintro x w6 ⟨g, rfl, hN⟩
    have HN := Lib.hid hN
    clear hN
    go_wp2_with fail
    go_ret2
    exact ⟨g, rfl, by rw [hM]; exact At.new HN.out H5.out.2.2, Nat.le_trans HB5.out.size HN.out.2.1, HB5.out.trans (HN.out.2.2.2.mono HB5.out.size)⟩

end Go.Proofs.Yteijpcedggkdpaa
