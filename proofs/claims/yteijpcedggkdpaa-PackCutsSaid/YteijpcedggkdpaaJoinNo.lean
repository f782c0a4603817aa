/-
  pack.Join where it is refused: the contract. Condition: a log in new memory, in bounds; a pack whose entries can be read.
-/
import Derived.Test.YteijpcedggkdpaaJoin
import Derived.BigQuiet
import Derived.Deep.QuietTactic
namespace Go.Proofs.Yteijpcedggkdpaa
open Go.RowKit
set_option linter.unusedSimpArgs false
set_option linter.unusedVariables false

set_option maxHeartbeats 1600000 in
theorem pack_Join_may {W0 w : World} {S : Nat → Prop} {l : Nat} {m a b c : Int} {v : Value} {es ps : List Ent} (h : At W0 w l m es) (ok : LogOk m es) (hE : EntsRd w S v ps) (hm : mayB a b c ps = false) (hb0 : 0 ≤ b) (hn : ps.length ≤ 64) :
    Calls Try.prog 8 #[.pointer (some ⟨l, 0, none⟩), packVal a b c v] w fun x w' => x = .returned (.tuple #[.pointer none, .int .i64 1]) ∧ Below w.heap.size w w' := by
  obtain ⟨M, hmx⟩ : ∃ M, (if m < b then b else m) = M := ⟨_, rfl⟩
  obtain ⟨cs, hr, -⟩ := id hE
  obtain ⟨q, d, rfl⟩ := Rd.slice hr
  have hB1 : Below w.heap.size w (w.alloc (.cells #[.int .u64 a, .int .u64 b, .int .u64 c, .slice q ps.length d] 31)) := (Below.refl _ w).alloc (Nat.le_refl _) _
  have H1 := Lib.hid (h.below hB1)
  have K1 := Lib.hid (Blk.new w 31 #[.int .u64 a, .int .u64 b, .int .u64 c, .slice q ps.length d])
  have HE1 := Lib.hid (EntsRd.below hE hB1)
  have HB1 := Lib.hid hB1
  have Hok := Lib.hid ok
  have Hm := Lib.hid hm
  have hlow := ok.low
  have hhigh := ok.high
  clear h ok hm hB1 hE hr
  unfold packVal
  go_enter Try.func8, Try.ntmps8
  go_wp2_with fail
  generalize w.alloc (.cells #[.int .u64 a, .int .u64 b, .int .u64 c, .slice q ps.length d] 31) = W1 at *
  obtain ⟨m0, m1, m2, m3, -, -, -, -, hz⟩ := K1.out.c4
  have hS : Holds [(w.heap.size, 0, .int .u64 a), (w.heap.size, 1, .int .u64 b), (w.heap.size, 2, .int .u64 c), (w.heap.size, 3, .slice q ps.length d)] W1.drew := ⟨m0, m1, m2, m3, trivial⟩
  have hT : Hold0 W1.drew := trivial
  refine begin_D [] (by kernel_rfl) hS (fun _ => hT) ?_
  refine take_S (v := ?v0j) 0 rfl (by kernel_rfl) (by kernel_rfl) (by kernel_rfl) (by kernel_rfl) (fun _ _ _ h => h) hS (fun _ => trivial) rfl (fun w' hq => ?h0j) ?_
  case h0j => obtain ⟨hq0, hq1, hq2, hq3, -⟩ := hq; change _ = some _ at hq0; change _ = some _ at hq1; change _ = some _ at hq2; change _ = some _ at hq3; go_simp; try with_reducible rfl
  try simp only [Act.put, List.setIfInBounds_toArray, List.set_cons_zero, List.set_cons_succ, List.getElem_toArray, List.getElem_cons_succ, List.getElem_cons_zero]
  refine take_S (v := ?v2j) 2 rfl (by kernel_rfl) (by kernel_rfl) (by kernel_rfl) (by kernel_rfl) (fun _ _ _ h => h) hS (fun _ => trivial) rfl (fun w' hq => ?h2j) ?_
  case h2j => obtain ⟨hq0, hq1, hq2, hq3, -⟩ := hq; change _ = some _ at hq0; change _ = some _ at hq1; change _ = some _ at hq2; change _ = some _ at hq3; go_simp; try with_reducible rfl
  try simp only [Act.put, List.setIfInBounds_toArray, List.set_cons_zero, List.set_cons_succ, List.getElem_toArray, List.getElem_cons_succ, List.getElem_cons_zero]
  refine take_S (v := ?v3j) 3 rfl (by kernel_rfl) (by kernel_rfl) (by kernel_rfl) (by kernel_rfl) (fun _ _ _ h => h) hS (fun _ => trivial) rfl (fun w' hq => ?h3j) ?_
  case h3j => obtain ⟨hq0, hq1, hq2, hq3, -⟩ := hq; change _ = some _ at hq0; change _ = some _ at hq1; change _ = some _ at hq2; change _ = some _ at hq3; go_simp; try with_reducible rfl
  try simp only [Act.put, List.setIfInBounds_toArray, List.set_cons_zero, List.set_cons_succ, List.getElem_toArray, List.getElem_cons_succ, List.getElem_cons_zero]
  refine one_D 1 rfl (by kernel_rfl) (fun KQ hK => ?_)
  go_simp
  have H1d := Lib.hid (H1.out.below (below_drewN (Below.refl _ W1) 1))
  refine (At_Base H1d.out).mono ?_
  rintro x w2 ⟨rfl, rfl⟩
  have hS1 : Holds [(w.heap.size, 0, .int .u64 a), (w.heap.size, 1, .int .u64 b), (w.heap.size, 2, .int .u64 c), (w.heap.size, 3, .slice q ps.length d)] W1.drew := ⟨m0, m1, m2, m3, trivial⟩
  refine hK.out _ _ hS1 (fun _ => trivial) ?_
  clear hK hS
  refine take_S (v := ?v4j) 4 rfl (by kernel_rfl) (by kernel_rfl) (by kernel_rfl) (by kernel_rfl) (fun _ _ _ h => h) hS1 (fun _ => trivial) rfl (fun w' hq => ?h4j) ?_
  case h4j => obtain ⟨hq0, hq1, hq2, hq3, -⟩ := hq; change _ = some _ at hq0; change _ = some _ at hq1; change _ = some _ at hq2; change _ = some _ at hq3; go_simp; try with_reducible rfl
  try simp only [Act.put, List.setIfInBounds_toArray, List.set_cons_zero, List.set_cons_succ, List.getElem_toArray, List.getElem_cons_succ, List.getElem_cons_zero]
  refine take_S (v := ?v5j) 5 rfl (by kernel_rfl) (by kernel_rfl) (by kernel_rfl) (by kernel_rfl) (fun _ _ _ h => h) hS1 (fun _ => trivial) rfl (fun w' hq => ?h5j) ?_
  case h5j => obtain ⟨hq0, hq1, hq2, hq3, -⟩ := hq; change _ = some _ at hq0; change _ = some _ at hq1; change _ = some _ at hq2; change _ = some _ at hq3; go_simp; try with_reducible rfl
  try simp only [Act.put, List.setIfInBounds_toArray, List.set_cons_zero, List.set_cons_succ, List.getElem_toArray, List.getElem_cons_succ, List.getElem_cons_zero]
  refine done_D (by kernel_rfl) ?_ _
  clear hS1
  clear hmx
  have HB2 := Lib.hid (below_drewN HB1.out 1)
  have HE2 := Lib.hid (EntsRd.below HE1.out (below_drewN (Below.refl _ W1) 1))
  have K2 := Lib.hid (Blk.below K1.out (below_drewN (Below.refl _ W1) 1))
  clear HB1 HE1 K1 H1 m0 m1 m2 m3 hz
  go_wp2_with fail
  have H2 := Lib.hid (show At W0 (W1.drewN 1) l m es from H1d.out)
  clear H1d
  generalize W1.drewN 1 = W2 at *
  refine (At_Base H2.out).mono ?_
  rintro x w3 ⟨rfl, rfl⟩
  go_wp2_with fail
  refine (At_From' H2.out Hok.out rfl).mono ?_
  rintro x w3 ⟨p1, c1, rfl, -, hX⟩
  have HB3 := Lib.hid (HB2.out.trans (hX.mono HB2.out.size))
  have HE3 := Lib.hid (EntsRd.below HE2.out hX)
  have K3 := Lib.hid (Blk.below K2.out hX)
  have H3 := Lib.hid (H2.out.below hX)
  clear hX HB2 HE2 K2 H2
  obtain ⟨m0, m1, m2, m3, -, -, -, -, hz⟩ := K3.out.c4
  go_wp2_with fail
  refine (pack_May HE3.out (by omega) hb0).mono ?_
  rintro x w4 ⟨rfl, hX⟩
  rw [Hm.out]
  have HB4 := Lib.hid (HB3.out.trans (hX.mono HB3.out.size))
  clear hX HB3 HE3 K3 H3 m0 m1 m2 m3 hz
  go_wp2_with fail
  go_ret2
  exact ⟨rfl, HB4.out⟩

set_option maxHeartbeats 1600000 in
theorem pack_Join_low {W0 w : World} {S : Nat → Prop} {l : Nat} {m a b c : Int} {v : Value} {es ps : List Ent} (h : At W0 w l m es) (ok : LogOk m es) (hE : EntsRd w S v ps) (hm : mayB a b c ps = true) (hb0 : 0 ≤ b) (hb1 : b ≤ 1099511627776) (hn : ps.length ≤ 64) (hlo : b + ps.length < m) :
    Calls Try.prog 8 #[.pointer (some ⟨l, 0, none⟩), packVal a b c v] w fun x w' => x = .returned (.tuple #[.pointer none, .int .i64 1]) ∧ Below w.heap.size w w' := by
  obtain ⟨M, hmx, hM⟩ : ∃ M, (if m < b then b else m) = M ∧ M = m := ⟨_, rfl, by split <;> omega⟩
  clear hM
  obtain ⟨cs, hr, -⟩ := id hE
  obtain ⟨q, d, rfl⟩ := Rd.slice hr
  have hB1 : Below w.heap.size w (w.alloc (.cells #[.int .u64 a, .int .u64 b, .int .u64 c, .slice q ps.length d] 31)) := (Below.refl _ w).alloc (Nat.le_refl _) _
  have H1 := Lib.hid (h.below hB1)
  have K1 := Lib.hid (Blk.new w 31 #[.int .u64 a, .int .u64 b, .int .u64 c, .slice q ps.length d])
  have HE1 := Lib.hid (EntsRd.below hE hB1)
  have HB1 := Lib.hid hB1
  have Hok := Lib.hid ok
  have Hm := Lib.hid hm
  have hlow := ok.low
  have hhigh := ok.high
  clear h ok hm hB1 hE hr
  unfold packVal
  go_enter Try.func8, Try.ntmps8
  go_wp2_with fail
  generalize w.alloc (.cells #[.int .u64 a, .int .u64 b, .int .u64 c, .slice q ps.length d] 31) = W1 at *
  obtain ⟨m0, m1, m2, m3, -, -, -, -, hz⟩ := K1.out.c4
  have hS : Holds [(w.heap.size, 0, .int .u64 a), (w.heap.size, 1, .int .u64 b), (w.heap.size, 2, .int .u64 c), (w.heap.size, 3, .slice q ps.length d)] W1.drew := ⟨m0, m1, m2, m3, trivial⟩
  have hT : Hold0 W1.drew := trivial
  refine begin_D [] (by kernel_rfl) hS (fun _ => hT) ?_
  refine take_S (v := ?v0j) 0 rfl (by kernel_rfl) (by kernel_rfl) (by kernel_rfl) (by kernel_rfl) (fun _ _ _ h => h) hS (fun _ => trivial) rfl (fun w' hq => ?h0j) ?_
  case h0j => obtain ⟨hq0, hq1, hq2, hq3, -⟩ := hq; change _ = some _ at hq0; change _ = some _ at hq1; change _ = some _ at hq2; change _ = some _ at hq3; go_simp; try with_reducible rfl
  try simp only [Act.put, List.setIfInBounds_toArray, List.set_cons_zero, List.set_cons_succ, List.getElem_toArray, List.getElem_cons_succ, List.getElem_cons_zero]
  refine take_S (v := ?v2j) 2 rfl (by kernel_rfl) (by kernel_rfl) (by kernel_rfl) (by kernel_rfl) (fun _ _ _ h => h) hS (fun _ => trivial) rfl (fun w' hq => ?h2j) ?_
  case h2j => obtain ⟨hq0, hq1, hq2, hq3, -⟩ := hq; change _ = some _ at hq0; change _ = some _ at hq1; change _ = some _ at hq2; change _ = some _ at hq3; go_simp; try with_reducible rfl
  try simp only [Act.put, List.setIfInBounds_toArray, List.set_cons_zero, List.set_cons_succ, List.getElem_toArray, List.getElem_cons_succ, List.getElem_cons_zero]
  refine take_S (v := ?v3j) 3 rfl (by kernel_rfl) (by kernel_rfl) (by kernel_rfl) (by kernel_rfl) (fun _ _ _ h => h) hS (fun _ => trivial) rfl (fun w' hq => ?h3j) ?_
  case h3j => obtain ⟨hq0, hq1, hq2, hq3, -⟩ := hq; change _ = some _ at hq0; change _ = some _ at hq1; change _ = some _ at hq2; change _ = some _ at hq3; go_simp; try with_reducible rfl
  try simp only [Act.put, List.setIfInBounds_toArray, List.set_cons_zero, List.set_cons_succ, List.getElem_toArray, List.getElem_cons_succ, List.getElem_cons_zero]
  refine one_D 1 rfl (by kernel_rfl) (fun KQ hK => ?_)
  go_simp
  have H1d := Lib.hid (H1.out.below (below_drewN (Below.refl _ W1) 1))
  refine (At_Base H1d.out).mono ?_
  rintro x w2 ⟨rfl, rfl⟩
  have hS1 : Holds [(w.heap.size, 0, .int .u64 a), (w.heap.size, 1, .int .u64 b), (w.heap.size, 2, .int .u64 c), (w.heap.size, 3, .slice q ps.length d)] W1.drew := ⟨m0, m1, m2, m3, trivial⟩
  refine hK.out _ _ hS1 (fun _ => trivial) ?_
  clear hK hS
  refine take_S (v := ?v4j) 4 rfl (by kernel_rfl) (by kernel_rfl) (by kernel_rfl) (by kernel_rfl) (fun _ _ _ h => h) hS1 (fun _ => trivial) rfl (fun w' hq => ?h4j) ?_
  case h4j => obtain ⟨hq0, hq1, hq2, hq3, -⟩ := hq; change _ = some _ at hq0; change _ = some _ at hq1; change _ = some _ at hq2; change _ = some _ at hq3; go_simp; try with_reducible rfl
  try simp only [Act.put, List.setIfInBounds_toArray, List.set_cons_zero, List.set_cons_succ, List.getElem_toArray, List.getElem_cons_succ, List.getElem_cons_zero]
  refine take_S (v := ?v5j) 5 rfl (by kernel_rfl) (by kernel_rfl) (by kernel_rfl) (by kernel_rfl) (fun _ _ _ h => h) hS1 (fun _ => trivial) rfl (fun w' hq => ?h5j) ?_
  case h5j => obtain ⟨hq0, hq1, hq2, hq3, -⟩ := hq; change _ = some _ at hq0; change _ = some _ at hq1; change _ = some _ at hq2; change _ = some _ at hq3; go_simp; try with_reducible rfl
  try simp only [Act.put, List.setIfInBounds_toArray, List.set_cons_zero, List.set_cons_succ, List.getElem_toArray, List.getElem_cons_succ, List.getElem_cons_zero]
  refine done_D (by kernel_rfl) ?_ _
  clear hS1
  have hM : M = m := by rw [← hmx]; split <;> omega
  clear hmx
  have HB2 := Lib.hid (below_drewN HB1.out 1)
  have HE2 := Lib.hid (EntsRd.below HE1.out (below_drewN (Below.refl _ W1) 1))
  have K2 := Lib.hid (Blk.below K1.out (below_drewN (Below.refl _ W1) 1))
  clear HB1 HE1 K1 H1 m0 m1 m2 m3 hz
  go_wp2_with fail
  have H2 := Lib.hid (show At W0 (W1.drewN 1) l m es from H1d.out)
  clear H1d
  generalize W1.drewN 1 = W2 at *
  refine (At_Base H2.out).mono ?_
  rintro x w3 ⟨rfl, rfl⟩
  go_wp2_with fail
  refine (At_From' H2.out Hok.out rfl).mono ?_
  rintro x w3 ⟨p1, c1, rfl, -, hX⟩
  have HB3 := Lib.hid (HB2.out.trans (hX.mono HB2.out.size))
  have HE3 := Lib.hid (EntsRd.below HE2.out hX)
  have K3 := Lib.hid (Blk.below K2.out hX)
  have H3 := Lib.hid (H2.out.below hX)
  clear hX HB2 HE2 K2 H2
  obtain ⟨m0, m1, m2, m3, -, -, -, -, hz⟩ := K3.out.c4
  go_wp2_with fail
  refine (pack_May HE3.out (by omega) hb0).mono ?_
  rintro x w4 ⟨rfl, hX⟩
  rw [Hm.out]
  have HB4 := Lib.hid (HB3.out.trans (hX.mono HB3.out.size))
  have HE4 := Lib.hid (EntsRd.below HE3.out hX)
  have K4 := Lib.hid (Blk.below K3.out hX)
  clear hX HB3 HE3 K3 H3 m0 m1 m2 m3 hz
  obtain ⟨m0, m1, m2, m3, -, -, -, -, hz⟩ := K4.out.c4
  subst hM
  go_wp2_with fail
  refine (pack_Op (by omega)).mono ?_
  rintro x w5 ⟨rfl, hX⟩
  rw [IntWalk.u64_in (b + (ps.length : Int)) (by omega)]
  have HB5 := Lib.hid (HB4.out.trans (hX.mono HB4.out.size))
  clear hX HB4 HE4 K4 m0 m1 m2 m3 hz
  have dM : decide (b + (ps.length : Int) < M) = true := by simp; omega
  go_wp2_with fail
  go_ret2
  exact ⟨rfl, HB5.out⟩

end Go.Proofs.Yteijpcedggkdpaa
