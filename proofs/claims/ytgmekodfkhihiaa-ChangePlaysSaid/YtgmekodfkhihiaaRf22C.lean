/-
  ChangePlays: the document's change: the contract of Best. (Printed by wip/gen_rfc22.py.)
-/
import Derived.Test.YtgmekodfkhihiaaRf22H
namespace Go.Proofs.Ytgmekodfkhihiaa
open Go.RowKit Go.Maps
set_option linter.unusedSimpArgs false
set_option linter.unusedVariables false
section
variable {w w' : World} {R R' A : Nat → Prop} {b : Nat} {n me v : Int} {tell : List Nat} {l : List (Nat × Pk)} {tp lp : Option Addr} {tc lc : Nat}
set_option maxHeartbeats 3200000 in
set_option maxRecDepth 100000 in
theorem rf_Best_few (H : RIn w R A b n me v tell l tp tc lp lc) (hn1 : 1 ≤ n) (hn7 : n ≤ 7) (h7 : l.length ≤ 7) (hen : (l.length : Int) < n / 2 + 1) :
    Calls Try.prog 22 #[.pointer (some ⟨b, 0, none⟩)] w fun x w' => x = .returned (.tuple #[.agg #[.int .u64 0, .int .u64 0, .int .u64 0, .slice none 0 0], .bool false]) ∧ Below w.heap.size w w' := by
  have hX := (Below.refl w.heap.size w).alloc (Nat.le_refl _) (.cells #[.int .u64 0, .int .u64 0, .int .u64 0, .slice none 0 0] 45)
  have kR := Blk.new w 45 #[.int .u64 0, .int .u64 0, .int .u64 0, .slice none 0 0]
  have hn0 : 0 ≤ n := by omega
  obtain ⟨a0, a1, a2, a3, a4, -, hz⟩ := (H.below hX).kb.c5
  have HX := Lib.hid hX
  have KR := Lib.hid kR
  have hdl : decide ((l.length : Int) < n / 2 + 1) = true := by simpa using hen
  clear H hX kR a1 a2 a3
  go_enter Try.func22, Try.ntmps22
  go_wp2_with fail
  generalize w.alloc (.cells #[.int .u64 0, .int .u64 0, .int .u64 0, .slice none 0 0] 45) = W at *
  have hS : Holds [(b, 4, .slice lp l.length lc), (b, 0, .int .i64 n)] W.drew := ⟨a4, a0, trivial⟩
  have HXd := Lib.hid HX.out.drew
  have KRd := Lib.hid KR.out.drew
  clear HX KR a0 a4 hz
  refine begin_D (T := Hold0) [] (by kernel_rfl) hS (fun _ => trivial) ?_
  generalize W.drew = V0 at *
  refine take_S (v := ?v0a) 0 rfl (by kernel_rfl) (by kernel_rfl) (by kernel_rfl) (by kernel_rfl) (fun _ _ _ h => h) hS (fun _ => trivial) rfl (fun w' hq => ?h0a) ?_
  case h0a => obtain ⟨q0, q1, -⟩ := hq; change _ = some _ at q0; change _ = some _ at q1; go_simp; try with_reducible rfl
  try simp only [Act.put, List.setIfInBounds_toArray, List.set_cons_zero, List.set_cons_succ, List.getElem_toArray, List.getElem_cons_succ, List.getElem_cons_zero]
  refine take_S (v := ?v1a) 1 rfl (by kernel_rfl) (by kernel_rfl) (by kernel_rfl) (by kernel_rfl) (fun _ _ _ h => h) hS (fun _ => trivial) rfl (fun w' hq => ?h1a) ?_
  case h1a => obtain ⟨q0, q1, -⟩ := hq; change _ = some _ at q0; change _ = some _ at q1; go_simp; try with_reducible rfl
  try simp only [Act.put, List.setIfInBounds_toArray, List.set_cons_zero, List.set_cons_succ, List.getElem_toArray, List.getElem_cons_succ, List.getElem_cons_zero]
  refine take_S (v := ?v2a) 2 rfl (by kernel_rfl) (by kernel_rfl) (by kernel_rfl) (by kernel_rfl) (fun _ _ _ h => h) hS (fun _ => trivial) rfl (fun w' hq => ?h2a) ?_
  case h2a => obtain ⟨q0, q1, -⟩ := hq; change _ = some _ at q0; change _ = some _ at q1; go_simp; try with_reducible rfl
  try simp only [Act.put, List.setIfInBounds_toArray, List.set_cons_zero, List.set_cons_succ, List.getElem_toArray, List.getElem_cons_succ, List.getElem_cons_zero]
  refine take_S (v := ?v3a) 3 rfl (by kernel_rfl) (by kernel_rfl) (by kernel_rfl) (by kernel_rfl) (fun _ _ _ h => h) hS (fun _ => trivial) rfl (fun w' hq => ?h3a) ?_
  case h3a => obtain ⟨q0, q1, -⟩ := hq; change _ = some _ at q0; change _ = some _ at q1; go_simp; try with_reducible rfl
  try simp only [Act.put, List.setIfInBounds_toArray, List.set_cons_zero, List.set_cons_succ, List.getElem_toArray, List.getElem_cons_succ, List.getElem_cons_zero]
  refine take_S (v := ?v4a) 4 rfl (by kernel_rfl) (by kernel_rfl) (by kernel_rfl) (by kernel_rfl) (fun _ _ _ h => h) hS (fun _ => trivial) rfl (fun w' hq => ?h4a) ?_
  case h4a => obtain ⟨q0, q1, -⟩ := hq; change _ = some _ at q0; change _ = some _ at q1; go_simp; try with_reducible rfl
  try simp only [Act.put, List.setIfInBounds_toArray, List.set_cons_zero, List.set_cons_succ, List.getElem_toArray, List.getElem_cons_succ, List.getElem_cons_zero]
  refine take_S (v := ?v5a) 5 rfl (by kernel_rfl) (by kernel_rfl) (by kernel_rfl) (by kernel_rfl) (fun _ _ _ h => h) hS (fun _ => trivial) rfl (fun w' hq => ?h5a) ?_
  case h5a => obtain ⟨q0, q1, -⟩ := hq; change _ = some _ at q0; change _ = some _ at q1; go_simp; try with_reducible rfl
  try simp only [Act.put, List.setIfInBounds_toArray, List.set_cons_zero, List.set_cons_succ, List.getElem_toArray, List.getElem_cons_succ, List.getElem_cons_zero]
  refine take_S (v := ?v6a) 6 rfl (by kernel_rfl) (by kernel_rfl) (by kernel_rfl) (by kernel_rfl) (fun _ _ _ h => h) hS (fun _ => trivial) rfl (fun w' hq => ?h6a) ?_
  case h6a => obtain ⟨q0, q1, -⟩ := hq; change _ = some _ at q0; change _ = some _ at q1; go_simp; try with_reducible rfl
  try simp only [Act.put, List.setIfInBounds_toArray, List.set_cons_zero, List.set_cons_succ, List.getElem_toArray, List.getElem_cons_succ, List.getElem_cons_zero]
  refine take_S (v := ?v7a) 7 rfl (by kernel_rfl) (by kernel_rfl) (by kernel_rfl) (by kernel_rfl) (fun _ _ _ h => h) hS (fun _ => trivial) rfl (fun w' hq => ?h7a) ?_
  case h7a => obtain ⟨q0, q1, -⟩ := hq; change _ = some _ at q0; change _ = some _ at q1; go_simp; try with_reducible rfl
  try simp only [Act.put, List.setIfInBounds_toArray, List.set_cons_zero, List.set_cons_succ, List.getElem_toArray, List.getElem_cons_succ, List.getElem_cons_zero]
  refine take_S (v := ?v8a) 8 rfl (by kernel_rfl) (by kernel_rfl) (by kernel_rfl) (by kernel_rfl) (fun _ _ _ h => h) hS (fun _ => trivial) rfl (fun w' hq => ?h8a) ?_
  case h8a => obtain ⟨q0, q1, -⟩ := hq; change _ = some _ at q0; change _ = some _ at q1; go_simp; try with_reducible rfl
  try simp only [Act.put, List.setIfInBounds_toArray, List.set_cons_zero, List.set_cons_succ, List.getElem_toArray, List.getElem_cons_succ, List.getElem_cons_zero]
  refine take_S (v := (.int .i64 (n / 2))) 9 rfl (by kernel_rfl) (by kernel_rfl) (by kernel_rfl) (by kernel_rfl) (fun _ _ _ h => h) hS (fun _ => trivial) rfl (fun w' hq => ?h9a) ?_
  case h9a => obtain ⟨q0, q1, -⟩ := hq; change _ = some _ at q0; change _ = some _ at q1; go_simp; (rw [Int.tdiv_eq_ediv_of_nonneg hn0]; exact IntWalk.i64_in _ (by omega))
  try simp only [Act.put, List.setIfInBounds_toArray, List.set_cons_zero, List.set_cons_succ, List.getElem_toArray, List.getElem_cons_succ, List.getElem_cons_zero]
  refine take_S (v := (.int .i64 (n / 2 + 1))) 10 rfl (by kernel_rfl) (by kernel_rfl) (by kernel_rfl) (by kernel_rfl) (fun _ _ _ h => h) hS (fun _ => trivial) rfl (fun w' hq => ?h10a) ?_
  case h10a => obtain ⟨q0, q1, -⟩ := hq; change _ = some _ at q0; change _ = some _ at q1; go_simp; exact IntWalk.i64_in _ (by omega)
  try simp only [Act.put, List.setIfInBounds_toArray, List.set_cons_zero, List.set_cons_succ, List.getElem_toArray, List.getElem_cons_succ, List.getElem_cons_zero]
  refine take_S (v := ?v11a) 11 rfl (by kernel_rfl) (by kernel_rfl) (by kernel_rfl) (by kernel_rfl) (fun _ _ _ h => h) hS (fun _ => trivial) rfl (fun w' hq => ?h11a) ?_
  case h11a => obtain ⟨q0, q1, -⟩ := hq; change _ = some _ at q0; change _ = some _ at q1; go_simp; try with_reducible rfl
  try simp only [Act.put, List.setIfInBounds_toArray, List.set_cons_zero, List.set_cons_succ, List.getElem_toArray, List.getElem_cons_succ, List.getElem_cons_zero]
  refine done_D (by kernel_rfl) ?_ _
  clear hS
  obtain ⟨r0, r1, r2, r3, f0, f1, f2, f3, hz0⟩ := KRd.out.c4
  go_wp2_with fail
  refine bodyPost_ret (v := .tuple #[.agg #[.int .u64 0, .int .u64 0, .int .u64 0, .slice none 0 0], .bool false]) (by simp [results, Try.results22, go_sem, r0, r1, r2, r3]) rfl ?_
  exact ⟨rfl, Below.sets4 HXd.out (Nat.le_refl _)⟩
/-- Through the loop of Best. -/
structure RS (w0 W : World) (R A : Nat → Prop) (b : Nat) (n me v : Int) (tell : List Nat) (l : List (Nat × Pk)) (tp : Option Addr) (tc : Nat) (lp : Option Addr) (lc : Nat) : Prop where
  r : RIn W R A b n me v tell l tp tc lp lc
  bl : Below w0.heap.size w0 W
  k : Blk W w0.heap.size 45 #[.int .u64 0, .int .u64 0, .int .u64 0, .slice none 0 0]
theorem RS.below {w0 W W' : World} (H : RS w0 W R A b n me v tell l tp tc lp lc) (hb : Below W.heap.size W W') : RS w0 W' R A b n me v tell l tp tc lp lc := ⟨H.r.below hb, H.bl.trans (hb.mono H.bl.size), H.k.below hb⟩
theorem rStep_to {i a a' ki ka : Nat} {cm cm' : Int} {Pi Pa : Pk} (hPi : l.getD i (0, noPk) = (ki, Pi)) (hPa : l.getD a (0, noPk) = (ka, Pa)) (hcm : (if cm < Pi.c then Pi.c else cm) = cm') (h : (if (Pi.better Pa || (!(Pa.better Pi) && decide (ki < ka))) = true then i else a) = a') : rStep l i (a, cm) = (a', cm') := by
  unfold rStep
  simp only [hPi, hPa, hcm, h]
theorem getD_at {j : Nat} (hj : j < l.length) : l.getD j (0, noPk) = l[j] := by simp [List.getD, List.getElem?_eq_getElem hj]
set_option maxHeartbeats 12800000 in
set_option maxRecDepth 100000 in
theorem rf_Best (H : RIn w R A b n me v tell l tp tc lp lc) (hn1 : 1 ≤ n) (hn7 : n ≤ 7) (h7 : l.length ≤ 7) (hen : n / 2 + 1 ≤ (l.length : Int)) (hok : ∀ x ∈ l, PkOk x.2) (hAw : ∀ j, A j → j < w.heap.size) :
    Calls Try.prog 22 #[.pointer (some ⟨b, 0, none⟩)] w fun x w' => ∃ q d, x = .returned (.tuple #[.agg #[.int .u64 (refBest l).l, .int .u64 (refBest l).b, .int .u64 (refBest l).c, .slice q (refBest l).es.length d], .bool true]) ∧ EntsRd w' A (.slice q (refBest l).es.length d) (refBest l).es ∧ Below w.heap.size w w' := by
  have hX := (Below.refl w.heap.size w).alloc (Nat.le_refl _) (.cells #[.int .u64 0, .int .u64 0, .int .u64 0, .slice none 0 0] 45)
  have kR := Blk.new w 45 #[.int .u64 0, .int .u64 0, .int .u64 0, .slice none 0 0]
  have hn0 : 0 ≤ n := by omega
  have hl0 : 0 < l.length := by omega
  have HO := Lib.hid (show RS w _ R A b n me v tell l tp tc lp lc from ⟨H.below hX, hX, kR⟩)
  obtain ⟨a0, a1, a2, a3, a4, -, hz⟩ := (H.below hX).kb.c5
  have hdl : decide ((l.length : Int) < n / 2 + 1) = false := by simpa using hen
  have Hok := Lib.hid hok
  have HAw := Lib.hid hAw
  clear H hX kR a1 a2 a3 hok hen hAw
  go_enter Try.func22, Try.ntmps22
  go_wp2_with fail
  generalize w.alloc (.cells #[.int .u64 0, .int .u64 0, .int .u64 0, .slice none 0 0] 45) = W at *
  have hS : Holds [(b, 4, .slice lp l.length lc), (b, 0, .int .i64 n)] W.drew := ⟨a4, a0, trivial⟩
  have HO1 := Lib.hid (HO.out.below (Below.refl _ W).drew)
  clear HO a0 a4 hz
  refine begin_D (T := Hold0) [] (by kernel_rfl) hS (fun _ => trivial) ?_
  generalize W.drew = V0 at *
  refine take_S (v := ?v0b) 0 rfl (by kernel_rfl) (by kernel_rfl) (by kernel_rfl) (by kernel_rfl) (fun _ _ _ h => h) hS (fun _ => trivial) rfl (fun w' hq => ?h0b) ?_
  case h0b => obtain ⟨q0, q1, -⟩ := hq; change _ = some _ at q0; change _ = some _ at q1; go_simp; try with_reducible rfl
  try simp only [Act.put, List.setIfInBounds_toArray, List.set_cons_zero, List.set_cons_succ, List.getElem_toArray, List.getElem_cons_succ, List.getElem_cons_zero]
  refine take_S (v := ?v1b) 1 rfl (by kernel_rfl) (by kernel_rfl) (by kernel_rfl) (by kernel_rfl) (fun _ _ _ h => h) hS (fun _ => trivial) rfl (fun w' hq => ?h1b) ?_
  case h1b => obtain ⟨q0, q1, -⟩ := hq; change _ = some _ at q0; change _ = some _ at q1; go_simp; try with_reducible rfl
  try simp only [Act.put, List.setIfInBounds_toArray, List.set_cons_zero, List.set_cons_succ, List.getElem_toArray, List.getElem_cons_succ, List.getElem_cons_zero]
  refine take_S (v := ?v2b) 2 rfl (by kernel_rfl) (by kernel_rfl) (by kernel_rfl) (by kernel_rfl) (fun _ _ _ h => h) hS (fun _ => trivial) rfl (fun w' hq => ?h2b) ?_
  case h2b => obtain ⟨q0, q1, -⟩ := hq; change _ = some _ at q0; change _ = some _ at q1; go_simp; try with_reducible rfl
  try simp only [Act.put, List.setIfInBounds_toArray, List.set_cons_zero, List.set_cons_succ, List.getElem_toArray, List.getElem_cons_succ, List.getElem_cons_zero]
  refine take_S (v := ?v3b) 3 rfl (by kernel_rfl) (by kernel_rfl) (by kernel_rfl) (by kernel_rfl) (fun _ _ _ h => h) hS (fun _ => trivial) rfl (fun w' hq => ?h3b) ?_
  case h3b => obtain ⟨q0, q1, -⟩ := hq; change _ = some _ at q0; change _ = some _ at q1; go_simp; try with_reducible rfl
  try simp only [Act.put, List.setIfInBounds_toArray, List.set_cons_zero, List.set_cons_succ, List.getElem_toArray, List.getElem_cons_succ, List.getElem_cons_zero]
  refine take_S (v := ?v4b) 4 rfl (by kernel_rfl) (by kernel_rfl) (by kernel_rfl) (by kernel_rfl) (fun _ _ _ h => h) hS (fun _ => trivial) rfl (fun w' hq => ?h4b) ?_
  case h4b => obtain ⟨q0, q1, -⟩ := hq; change _ = some _ at q0; change _ = some _ at q1; go_simp; try with_reducible rfl
  try simp only [Act.put, List.setIfInBounds_toArray, List.set_cons_zero, List.set_cons_succ, List.getElem_toArray, List.getElem_cons_succ, List.getElem_cons_zero]
  refine take_S (v := ?v5b) 5 rfl (by kernel_rfl) (by kernel_rfl) (by kernel_rfl) (by kernel_rfl) (fun _ _ _ h => h) hS (fun _ => trivial) rfl (fun w' hq => ?h5b) ?_
  case h5b => obtain ⟨q0, q1, -⟩ := hq; change _ = some _ at q0; change _ = some _ at q1; go_simp; try with_reducible rfl
  try simp only [Act.put, List.setIfInBounds_toArray, List.set_cons_zero, List.set_cons_succ, List.getElem_toArray, List.getElem_cons_succ, List.getElem_cons_zero]
  refine take_S (v := ?v6b) 6 rfl (by kernel_rfl) (by kernel_rfl) (by kernel_rfl) (by kernel_rfl) (fun _ _ _ h => h) hS (fun _ => trivial) rfl (fun w' hq => ?h6b) ?_
  case h6b => obtain ⟨q0, q1, -⟩ := hq; change _ = some _ at q0; change _ = some _ at q1; go_simp; try with_reducible rfl
  try simp only [Act.put, List.setIfInBounds_toArray, List.set_cons_zero, List.set_cons_succ, List.getElem_toArray, List.getElem_cons_succ, List.getElem_cons_zero]
  refine take_S (v := ?v7b) 7 rfl (by kernel_rfl) (by kernel_rfl) (by kernel_rfl) (by kernel_rfl) (fun _ _ _ h => h) hS (fun _ => trivial) rfl (fun w' hq => ?h7b) ?_
  case h7b => obtain ⟨q0, q1, -⟩ := hq; change _ = some _ at q0; change _ = some _ at q1; go_simp; try with_reducible rfl
  try simp only [Act.put, List.setIfInBounds_toArray, List.set_cons_zero, List.set_cons_succ, List.getElem_toArray, List.getElem_cons_succ, List.getElem_cons_zero]
  refine take_S (v := ?v8b) 8 rfl (by kernel_rfl) (by kernel_rfl) (by kernel_rfl) (by kernel_rfl) (fun _ _ _ h => h) hS (fun _ => trivial) rfl (fun w' hq => ?h8b) ?_
  case h8b => obtain ⟨q0, q1, -⟩ := hq; change _ = some _ at q0; change _ = some _ at q1; go_simp; try with_reducible rfl
  try simp only [Act.put, List.setIfInBounds_toArray, List.set_cons_zero, List.set_cons_succ, List.getElem_toArray, List.getElem_cons_succ, List.getElem_cons_zero]
  refine take_S (v := (.int .i64 (n / 2))) 9 rfl (by kernel_rfl) (by kernel_rfl) (by kernel_rfl) (by kernel_rfl) (fun _ _ _ h => h) hS (fun _ => trivial) rfl (fun w' hq => ?h9b) ?_
  case h9b => obtain ⟨q0, q1, -⟩ := hq; change _ = some _ at q0; change _ = some _ at q1; go_simp; (rw [Int.tdiv_eq_ediv_of_nonneg hn0]; exact IntWalk.i64_in _ (by omega))
  try simp only [Act.put, List.setIfInBounds_toArray, List.set_cons_zero, List.set_cons_succ, List.getElem_toArray, List.getElem_cons_succ, List.getElem_cons_zero]
  refine take_S (v := (.int .i64 (n / 2 + 1))) 10 rfl (by kernel_rfl) (by kernel_rfl) (by kernel_rfl) (by kernel_rfl) (fun _ _ _ h => h) hS (fun _ => trivial) rfl (fun w' hq => ?h10b) ?_
  case h10b => obtain ⟨q0, q1, -⟩ := hq; change _ = some _ at q0; change _ = some _ at q1; go_simp; exact IntWalk.i64_in _ (by omega)
  try simp only [Act.put, List.setIfInBounds_toArray, List.set_cons_zero, List.set_cons_succ, List.getElem_toArray, List.getElem_cons_succ, List.getElem_cons_zero]
  refine take_S (v := ?v11b) 11 rfl (by kernel_rfl) (by kernel_rfl) (by kernel_rfl) (by kernel_rfl) (fun _ _ _ h => h) hS (fun _ => trivial) rfl (fun w' hq => ?h11b) ?_
  case h11b => obtain ⟨q0, q1, -⟩ := hq; change _ = some _ at q0; change _ = some _ at q1; go_simp; try with_reducible rfl
  try simp only [Act.put, List.setIfInBounds_toArray, List.set_cons_zero, List.set_cons_succ, List.getElem_toArray, List.getElem_cons_succ, List.getElem_cons_zero]
  refine done_D (by kernel_rfl) ?_ _
  clear hS hdl
  go_wp2_with fail
  go_loopw [4, 5, 6] (fun av cv iv wr => ∃ i : Nat, i ≤ l.length ∧ iv = .int .i64 i ∧ av = .int .i64 ((rTo l i).1 : Nat) ∧ cv = .int .u64 (rTo l i).2 ∧ Hid (RS w wr R A b n me v tell l tp tc lp lc)) (fun _ _ iv _ => l.length - (intOf iv).toNat)
  case atStart => exact ⟨0, Nat.zero_le _, rfl, rfl, rfl, HO1⟩
  case round =>
    obtain ⟨i, hi, rfl, rfl, rfl, HO⟩ := hrel
    clear HO1
    have hsp := rTo_spec l i hi hl0
    have hatl := hsp.1
    obtain ⟨a, ha⟩ : ∃ x, (rTo l i).1 = x := ⟨_, rfl⟩
    obtain ⟨cm, hcm⟩ : ∃ x, (rTo l i).2 = x := ⟨_, rfl⟩
    rw [ha] at hatl
    rw [ha, hcm]
    have Hr := Lib.hid (show rTo l i = (a, cm) from by rw [← ha, ← hcm])
    clear hsp ha hcm
    by_cases hlt : i < l.length
    · obtain ⟨g, q, d, cur, rfl, hc, hblk, hRg, e0, e1, e2, e3, e4, hre⟩ := hand_cells HO.out.r hlt
      obtain ⟨Pi, hPi⟩ : ∃ x, l[i].2 = x := ⟨_, rfl⟩
      obtain ⟨ki, hki⟩ : ∃ x, l[i].1 = x := ⟨_, rfl⟩
      rw [hPi] at e1 e2 e3 e4 hre
      rw [hki] at e0
      have HPi := Lib.hid (show l.getD i (0, noPk) = (ki, Pi) from by rw [getD_at hlt, ← hPi, ← hki])
      have Hoki := Lib.hid (show PkOk Pi from by rw [← hPi]; exact Hok.out _ (List.getElem_mem hlt))
      have HRe := Lib.hid hre
      have hei : Pi.es.length ≤ 64 := Hoki.out.parts.1
      have ha4 : wr.cell? ⟨b, 4, none⟩ = _ := HO.out.r.kb.cell 4
      have hza := HO.out.r.kb.lt
      clear hPi hki hre hblk
      go_upto_region 9 with fail
      have hbp := (Below.refl wr.heap.size wr).alloc (Nat.le_refl _) (.cells #[.int .u64 Pi.l, .int .u64 Pi.b, .int .u64 Pi.c, .slice q Pi.es.length d] 45)
      have KP := Lib.hid (Blk.new wr 45 #[.int .u64 Pi.l, .int .u64 Pi.b, .int .u64 Pi.c, .slice q Pi.es.length d])
      have HO1 := Lib.hid (HO.out.below hbp)
      have HRe1 := Lib.hid (HRe.out.below hbp)
      clear hbp HO HRe e0 e1 e2 e3 e4 ha4 hza
      generalize wr.alloc (.cells #[.int .u64 Pi.l, .int .u64 Pi.b, .int .u64 Pi.c, .slice q Pi.es.length d] 45) = V1 at *
      generalize wr.heap.size = pb at *
      obtain ⟨p0, p1, p2, p3, -, -, -, -, hzp⟩ := KP.out.c4
      obtain ⟨cm', hcm'⟩ : ∃ x, (if cm < Pi.c then Pi.c else cm) = x := ⟨_, rfl⟩
      go_upto_if 42 with fail
      go_cut [5] (fun cv wx => cv = .int .u64 cm' ∧ wx = V1)
      case first =>
        by_cases hcc : cm < Pi.c
        · rw [if_pos hcc] at hcm'
          subst hcm'
          go_wp2_with fail
          go_meet
          case rel => exact ⟨rfl, rfl⟩
        · rw [if_neg hcc] at hcm'
          subst hcm'
          go_wp2_with fail
          go_meet
          case rel => exact ⟨rfl, rfl⟩
      case rest =>
        obtain ⟨rfl, rfl⟩ := hcut
        have Hcm := Lib.hid hcm'
        clear hcm'
        obtain ⟨g0, q', d', cur', hg0, -, -, -, f0, f1, f2, f3, f4, -⟩ := hand_cells HO1.out.r hatl
        obtain ⟨g1, q1, d1, cur1, hg1, hc1, -, -, e0, -, -, -, -, -⟩ := hand_cells HO1.out.r hlt
        injection hg0 with hg0
        injection hg0 with hg0
        injection hg1 with hg1
        injection hg1 with hg1
        subst hg0
        subst hg1
        have hPi := HPi.out
        rw [getD_at hlt] at hPi
        rw [show l[i].1 = ki from by rw [hPi]] at e0
        obtain ⟨ka, Pa, hPa⟩ : ∃ x y, l[a] = (x, y) := ⟨_, _, rfl⟩
        rw [show l[a].1 = ka from by rw [hPa]] at f0
        rw [show l[a].2 = Pa from by rw [hPa]] at f1 f2 f3 f4
        have HPa := Lib.hid (show l.getD a (0, noPk) = (ka, Pa) from by rw [getD_at hatl, hPa])
        have Hoka := Lib.hid (show PkOk Pa from by have := Hok.out _ (List.getElem_mem hatl); rw [hPa] at this; exact this)
        have hea : Pa.es.length ≤ 64 := Hoka.out.parts.1
        have ha4 : wc.cell? ⟨b, 4, none⟩ = _ := HO1.out.r.kb.cell 4
        have hS : Holds [(b, 4, .slice (some ⟨g, 0, none⟩) l.length lc), (pb, 0, .int .u64 Pi.l), (pb, 1, .int .u64 Pi.b), (pb, 2, .int .u64 Pi.c), (pb, 3, .slice q Pi.es.length d), (g, i * 5, .int .i64 (ki : Int)), (g, a * 5, .int .i64 (ka : Int)), (g, a * 5 + 1, .int .u64 Pa.l), (g, a * 5 + 2, .int .u64 Pa.b), (g, a * 5 + 3, .int .u64 Pa.c), (g, a * 5 + 4, .slice q' Pa.es.length d')] wc.drew := ⟨ha4, p0, p1, p2, p3, e0, f0, f1, f2, f3, f4, trivial⟩
        have HO2 := Lib.hid (HO1.out.below (Below.refl _ wc).drew)
        obtain ⟨r1, hr1⟩ : ∃ r, betterB Pi.l (IntKind.u64.wrap (Pi.b + (Pi.es.length : Nat))) Pa.l (IntKind.u64.wrap (Pa.b + (Pa.es.length : Nat))) = r := ⟨_, rfl⟩
        obtain ⟨r2, hr2⟩ : ∃ r, betterB Pa.l (IntKind.u64.wrap (Pa.b + (Pa.es.length : Nat))) Pi.l (IntKind.u64.wrap (Pi.b + (Pi.es.length : Nat))) = r := ⟨_, rfl⟩
        have Hb1 := Lib.hid (show Pi.better Pa = r1 from by rw [← hr1, Hoki.out.wrap, Hoka.out.wrap]; rfl)
        have Hb2 := Lib.hid (show Pa.better Pi = r2 from by rw [← hr2, Hoki.out.wrap, Hoka.out.wrap]; rfl)
        have Hr1 := Lib.hid hr1
        have Hr2 := Lib.hid hr2
        have hei2 : Pi.es.length ≤ 1152921504606846976 := by omega
        have hea2 : Pa.es.length ≤ 1152921504606846976 := by omega
        have Hst := Lib.hid (fun (a' : Nat) (h : (if (Pi.better Pa || (!(Pa.better Pi) && decide (ki < ka))) = true then i else a) = a') => rStep_to HPi.out HPa.out Hcm.out h)
        clear hPi hPa p0 p1 p2 p3 hzp e0 f0 f1 f2 f3 f4 ha4 hr1 hr2 HO1
        go_upto_region 11 with fail
        refine begin_D (T := Hold0) [] (by kernel_rfl) hS (fun _ => trivial) ?_
        generalize wc.drew = V2 at *
        refine take_S (v := ?v0a) 0 rfl (by kernel_rfl) (by kernel_rfl) (by kernel_rfl) (by kernel_rfl) (fun _ _ _ h => h) hS (fun _ => trivial) rfl (fun w' hq => ?h0a) ?_
        case h0a => obtain ⟨q0, q1, q2, q3, q4, q5, q6, q7, q8, q9, q10, -⟩ := hq; change _ = some _ at q0; change _ = some _ at q1; change _ = some _ at q2; change _ = some _ at q3; change _ = some _ at q4; change _ = some _ at q5; change _ = some _ at q6; change _ = some _ at q7; change _ = some _ at q8; change _ = some _ at q9; change _ = some _ at q10; go_simp; try with_reducible rfl
        try simp only [Act.put, List.setIfInBounds_toArray, List.set_cons_zero, List.set_cons_succ, List.getElem_toArray, List.getElem_cons_succ, List.getElem_cons_zero]
        refine take_S (v := ?v1a) 1 rfl (by kernel_rfl) (by kernel_rfl) (by kernel_rfl) (by kernel_rfl) (fun _ _ _ h => h) hS (fun _ => trivial) rfl (fun w' hq => ?h1a) ?_
        case h1a => obtain ⟨q0, q1, q2, q3, q4, q5, q6, q7, q8, q9, q10, -⟩ := hq; change _ = some _ at q0; change _ = some _ at q1; change _ = some _ at q2; change _ = some _ at q3; change _ = some _ at q4; change _ = some _ at q5; change _ = some _ at q6; change _ = some _ at q7; change _ = some _ at q8; change _ = some _ at q9; change _ = some _ at q10; go_simp; try with_reducible rfl
        try simp only [Act.put, List.setIfInBounds_toArray, List.set_cons_zero, List.set_cons_succ, List.getElem_toArray, List.getElem_cons_succ, List.getElem_cons_zero]
        refine take_S (v := ?v2a) 2 rfl (by kernel_rfl) (by kernel_rfl) (by kernel_rfl) (by kernel_rfl) (fun _ _ _ h => h) hS (fun _ => trivial) rfl (fun w' hq => ?h2a) ?_
        case h2a => obtain ⟨q0, q1, q2, q3, q4, q5, q6, q7, q8, q9, q10, -⟩ := hq; change _ = some _ at q0; change _ = some _ at q1; change _ = some _ at q2; change _ = some _ at q3; change _ = some _ at q4; change _ = some _ at q5; change _ = some _ at q6; change _ = some _ at q7; change _ = some _ at q8; change _ = some _ at q9; change _ = some _ at q10; go_simp; try with_reducible rfl
        try simp only [Act.put, List.setIfInBounds_toArray, List.set_cons_zero, List.set_cons_succ, List.getElem_toArray, List.getElem_cons_succ, List.getElem_cons_zero]
        refine take_S (v := ?v3a) 3 rfl (by kernel_rfl) (by kernel_rfl) (by kernel_rfl) (by kernel_rfl) (fun _ _ _ h => h) hS (fun _ => trivial) rfl (fun w' hq => ?h3a) ?_
        case h3a => obtain ⟨q0, q1, q2, q3, q4, q5, q6, q7, q8, q9, q10, -⟩ := hq; change _ = some _ at q0; change _ = some _ at q1; change _ = some _ at q2; change _ = some _ at q3; change _ = some _ at q4; change _ = some _ at q5; change _ = some _ at q6; change _ = some _ at q7; change _ = some _ at q8; change _ = some _ at q9; change _ = some _ at q10; go_simp; try with_reducible rfl
        try simp only [Act.put, List.setIfInBounds_toArray, List.set_cons_zero, List.set_cons_succ, List.getElem_toArray, List.getElem_cons_succ, List.getElem_cons_zero]
        refine take_S (v := ?v4a) 4 rfl (by kernel_rfl) (by kernel_rfl) (by kernel_rfl) (by kernel_rfl) (fun _ _ _ h => h) hS (fun _ => trivial) rfl (fun w' hq => ?h4a) ?_
        case h4a => obtain ⟨q0, q1, q2, q3, q4, q5, q6, q7, q8, q9, q10, -⟩ := hq; change _ = some _ at q0; change _ = some _ at q1; change _ = some _ at q2; change _ = some _ at q3; change _ = some _ at q4; change _ = some _ at q5; change _ = some _ at q6; change _ = some _ at q7; change _ = some _ at q8; change _ = some _ at q9; change _ = some _ at q10; go_simp; try with_reducible rfl
        try simp only [Act.put, List.setIfInBounds_toArray, List.set_cons_zero, List.set_cons_succ, List.getElem_toArray, List.getElem_cons_succ, List.getElem_cons_zero]
        refine take_S (v := ?v5a) 5 rfl (by kernel_rfl) (by kernel_rfl) (by kernel_rfl) (by kernel_rfl) (fun _ _ _ h => h) hS (fun _ => trivial) rfl (fun w' hq => ?h5a) ?_
        case h5a => obtain ⟨q0, q1, q2, q3, q4, q5, q6, q7, q8, q9, q10, -⟩ := hq; change _ = some _ at q0; change _ = some _ at q1; change _ = some _ at q2; change _ = some _ at q3; change _ = some _ at q4; change _ = some _ at q5; change _ = some _ at q6; change _ = some _ at q7; change _ = some _ at q8; change _ = some _ at q9; change _ = some _ at q10; go_simp; try with_reducible rfl
        try simp only [Act.put, List.setIfInBounds_toArray, List.set_cons_zero, List.set_cons_succ, List.getElem_toArray, List.getElem_cons_succ, List.getElem_cons_zero]
        refine take_S (v := ?v6a) 6 rfl (by kernel_rfl) (by kernel_rfl) (by kernel_rfl) (by kernel_rfl) (fun _ _ _ h => h) hS (fun _ => trivial) rfl (fun w' hq => ?h6a) ?_
        case h6a => obtain ⟨q0, q1, q2, q3, q4, q5, q6, q7, q8, q9, q10, -⟩ := hq; change _ = some _ at q0; change _ = some _ at q1; change _ = some _ at q2; change _ = some _ at q3; change _ = some _ at q4; change _ = some _ at q5; change _ = some _ at q6; change _ = some _ at q7; change _ = some _ at q8; change _ = some _ at q9; change _ = some _ at q10; go_simp; try with_reducible rfl
        try simp only [Act.put, List.setIfInBounds_toArray, List.set_cons_zero, List.set_cons_succ, List.getElem_toArray, List.getElem_cons_succ, List.getElem_cons_zero]
        refine take_S (v := ?v7a) 7 rfl (by kernel_rfl) (by kernel_rfl) (by kernel_rfl) (by kernel_rfl) (fun _ _ _ h => h) hS (fun _ => trivial) rfl (fun w' hq => ?h7a) ?_
        case h7a => obtain ⟨q0, q1, q2, q3, q4, q5, q6, q7, q8, q9, q10, -⟩ := hq; change _ = some _ at q0; change _ = some _ at q1; change _ = some _ at q2; change _ = some _ at q3; change _ = some _ at q4; change _ = some _ at q5; change _ = some _ at q6; change _ = some _ at q7; change _ = some _ at q8; change _ = some _ at q9; change _ = some _ at q10; go_simp; try with_reducible rfl
        try simp only [Act.put, List.setIfInBounds_toArray, List.set_cons_zero, List.set_cons_succ, List.getElem_toArray, List.getElem_cons_succ, List.getElem_cons_zero]
        refine take_S (v := ?v8a) 8 rfl (by kernel_rfl) (by kernel_rfl) (by kernel_rfl) (by kernel_rfl) (fun _ _ _ h => h) hS (fun _ => trivial) rfl (fun w' hq => ?h8a) ?_
        case h8a => obtain ⟨q0, q1, q2, q3, q4, q5, q6, q7, q8, q9, q10, -⟩ := hq; change _ = some _ at q0; change _ = some _ at q1; change _ = some _ at q2; change _ = some _ at q3; change _ = some _ at q4; change _ = some _ at q5; change _ = some _ at q6; change _ = some _ at q7; change _ = some _ at q8; change _ = some _ at q9; change _ = some _ at q10; go_simp; try with_reducible rfl
        try simp only [Act.put, List.setIfInBounds_toArray, List.set_cons_zero, List.set_cons_succ, List.getElem_toArray, List.getElem_cons_succ, List.getElem_cons_zero]
        refine one_D 9 rfl (by kernel_rfl) (fun KQ hK => ?_)
        go_simp
        refine (rf_Better (r := r1) hei2 hea2 Hr1.out).mono ?_
        rintro x V3 ⟨rfl, hb⟩
        have hS3 : Holds [(b, 4, .slice (some ⟨g, 0, none⟩) l.length lc), (pb, 0, .int .u64 Pi.l), (pb, 1, .int .u64 Pi.b), (pb, 2, .int .u64 Pi.c), (pb, 3, .slice q Pi.es.length d), (g, i * 5, .int .i64 (ki : Int)), (g, a * 5, .int .i64 (ka : Int)), (g, a * 5 + 1, .int .u64 Pa.l), (g, a * 5 + 2, .int .u64 Pa.b), (g, a * 5 + 3, .int .u64 Pa.c), (g, a * 5 + 4, .slice q' Pa.es.length d')] V3 := Holds.below hS hb
        have HO3 := Lib.hid (HO2.out.below hb)
        refine hK.out _ _ hS3 (fun _ => trivial) ?_
        clear hK hb hS HO2
        cases r1 with
        | true =>
          refine take_S (v := ?v10t) 10 rfl (by kernel_rfl) (by kernel_rfl) (by kernel_rfl) (by kernel_rfl) (fun _ _ _ h => h) hS3 (fun _ => trivial) rfl (fun w' hq => ?h10t) ?_
          case h10t => obtain ⟨q0, q1, q2, q3, q4, q5, q6, q7, q8, q9, q10, -⟩ := hq; change _ = some _ at q0; change _ = some _ at q1; change _ = some _ at q2; change _ = some _ at q3; change _ = some _ at q4; change _ = some _ at q5; change _ = some _ at q6; change _ = some _ at q7; change _ = some _ at q8; change _ = some _ at q9; change _ = some _ at q10; go_simp; try with_reducible rfl
          try simp only [Act.put, List.setIfInBounds_toArray, List.set_cons_zero, List.set_cons_succ, List.getElem_toArray, List.getElem_cons_succ, List.getElem_cons_zero]
          refine take_no 11 rfl (by kernel_rfl) (by kernel_rfl) (by kernel_rfl) (by kernel_rfl) (fun _ _ _ h => h) hS3 (fun _ => trivial) rfl ?_
          try simp only [Act.put, List.setIfInBounds_toArray, List.set_cons_zero, List.set_cons_succ, List.getElem_toArray, List.getElem_cons_succ, List.getElem_cons_zero]
          refine take_no 12 rfl (by kernel_rfl) (by kernel_rfl) (by kernel_rfl) (by kernel_rfl) (fun _ _ _ h => h) hS3 (fun _ => trivial) rfl ?_
          try simp only [Act.put, List.setIfInBounds_toArray, List.set_cons_zero, List.set_cons_succ, List.getElem_toArray, List.getElem_cons_succ, List.getElem_cons_zero]
          refine take_no 13 rfl (by kernel_rfl) (by kernel_rfl) (by kernel_rfl) (by kernel_rfl) (fun _ _ _ h => h) hS3 (fun _ => trivial) rfl ?_
          try simp only [Act.put, List.setIfInBounds_toArray, List.set_cons_zero, List.set_cons_succ, List.getElem_toArray, List.getElem_cons_succ, List.getElem_cons_zero]
          refine take_no 14 rfl (by kernel_rfl) (by kernel_rfl) (by kernel_rfl) (by kernel_rfl) (fun _ _ _ h => h) hS3 (fun _ => trivial) rfl ?_
          try simp only [Act.put, List.setIfInBounds_toArray, List.set_cons_zero, List.set_cons_succ, List.getElem_toArray, List.getElem_cons_succ, List.getElem_cons_zero]
          refine take_no 15 rfl (by kernel_rfl) (by kernel_rfl) (by kernel_rfl) (by kernel_rfl) (fun _ _ _ h => h) hS3 (fun _ => trivial) rfl ?_
          try simp only [Act.put, List.setIfInBounds_toArray, List.set_cons_zero, List.set_cons_succ, List.getElem_toArray, List.getElem_cons_succ, List.getElem_cons_zero]
          refine take_no 16 rfl (by kernel_rfl) (by kernel_rfl) (by kernel_rfl) (by kernel_rfl) (fun _ _ _ h => h) hS3 (fun _ => trivial) rfl ?_
          try simp only [Act.put, List.setIfInBounds_toArray, List.set_cons_zero, List.set_cons_succ, List.getElem_toArray, List.getElem_cons_succ, List.getElem_cons_zero]
          refine take_no 17 rfl (by kernel_rfl) (by kernel_rfl) (by kernel_rfl) (by kernel_rfl) (fun _ _ _ h => h) hS3 (fun _ => trivial) rfl ?_
          try simp only [Act.put, List.setIfInBounds_toArray, List.set_cons_zero, List.set_cons_succ, List.getElem_toArray, List.getElem_cons_succ, List.getElem_cons_zero]
          refine take_no 18 rfl (by kernel_rfl) (by kernel_rfl) (by kernel_rfl) (by kernel_rfl) (fun _ _ _ h => h) hS3 (fun _ => trivial) rfl ?_
          try simp only [Act.put, List.setIfInBounds_toArray, List.set_cons_zero, List.set_cons_succ, List.getElem_toArray, List.getElem_cons_succ, List.getElem_cons_zero]
          refine take_no 19 rfl (by kernel_rfl) (by kernel_rfl) (by kernel_rfl) (by kernel_rfl) (fun _ _ _ h => h) hS3 (fun _ => trivial) rfl ?_
          try simp only [Act.put, List.setIfInBounds_toArray, List.set_cons_zero, List.set_cons_succ, List.getElem_toArray, List.getElem_cons_succ, List.getElem_cons_zero]
          refine take_no 20 rfl (by kernel_rfl) (by kernel_rfl) (by kernel_rfl) (by kernel_rfl) (fun _ _ _ h => h) hS3 (fun _ => trivial) rfl ?_
          try simp only [Act.put, List.setIfInBounds_toArray, List.set_cons_zero, List.set_cons_succ, List.getElem_toArray, List.getElem_cons_succ, List.getElem_cons_zero]
          refine take_no 21 rfl (by kernel_rfl) (by kernel_rfl) (by kernel_rfl) (by kernel_rfl) (fun _ _ _ h => h) hS3 (fun _ => trivial) rfl ?_
          try simp only [Act.put, List.setIfInBounds_toArray, List.set_cons_zero, List.set_cons_succ, List.getElem_toArray, List.getElem_cons_succ, List.getElem_cons_zero]
          refine take_no 22 rfl (by kernel_rfl) (by kernel_rfl) (by kernel_rfl) (by kernel_rfl) (fun _ _ _ h => h) hS3 (fun _ => trivial) rfl ?_
          try simp only [Act.put, List.setIfInBounds_toArray, List.set_cons_zero, List.set_cons_succ, List.getElem_toArray, List.getElem_cons_succ, List.getElem_cons_zero]
          refine take_no 23 rfl (by kernel_rfl) (by kernel_rfl) (by kernel_rfl) (by kernel_rfl) (fun _ _ _ h => h) hS3 (fun _ => trivial) rfl ?_
          try simp only [Act.put, List.setIfInBounds_toArray, List.set_cons_zero, List.set_cons_succ, List.getElem_toArray, List.getElem_cons_succ, List.getElem_cons_zero]
          refine take_no 24 rfl (by kernel_rfl) (by kernel_rfl) (by kernel_rfl) (by kernel_rfl) (fun _ _ _ h => h) hS3 (fun _ => trivial) rfl ?_
          try simp only [Act.put, List.setIfInBounds_toArray, List.set_cons_zero, List.set_cons_succ, List.getElem_toArray, List.getElem_cons_succ, List.getElem_cons_zero]
          refine take_no 25 rfl (by kernel_rfl) (by kernel_rfl) (by kernel_rfl) (by kernel_rfl) (fun _ _ _ h => h) hS3 (fun _ => trivial) rfl ?_
          try simp only [Act.put, List.setIfInBounds_toArray, List.set_cons_zero, List.set_cons_succ, List.getElem_toArray, List.getElem_cons_succ, List.getElem_cons_zero]
          refine take_no 26 rfl (by kernel_rfl) (by kernel_rfl) (by kernel_rfl) (by kernel_rfl) (fun _ _ _ h => h) hS3 (fun _ => trivial) rfl ?_
          try simp only [Act.put, List.setIfInBounds_toArray, List.set_cons_zero, List.set_cons_succ, List.getElem_toArray, List.getElem_cons_succ, List.getElem_cons_zero]
          refine take_no 27 rfl (by kernel_rfl) (by kernel_rfl) (by kernel_rfl) (by kernel_rfl) (fun _ _ _ h => h) hS3 (fun _ => trivial) rfl ?_
          try simp only [Act.put, List.setIfInBounds_toArray, List.set_cons_zero, List.set_cons_succ, List.getElem_toArray, List.getElem_cons_succ, List.getElem_cons_zero]
          refine take_no 28 rfl (by kernel_rfl) (by kernel_rfl) (by kernel_rfl) (by kernel_rfl) (fun _ _ _ h => h) hS3 (fun _ => trivial) rfl ?_
          try simp only [Act.put, List.setIfInBounds_toArray, List.set_cons_zero, List.set_cons_succ, List.getElem_toArray, List.getElem_cons_succ, List.getElem_cons_zero]
          refine take_no 29 rfl (by kernel_rfl) (by kernel_rfl) (by kernel_rfl) (by kernel_rfl) (fun _ _ _ h => h) hS3 (fun _ => trivial) rfl ?_
          try simp only [Act.put, List.setIfInBounds_toArray, List.set_cons_zero, List.set_cons_succ, List.getElem_toArray, List.getElem_cons_succ, List.getElem_cons_zero]
          refine take_no 30 rfl (by kernel_rfl) (by kernel_rfl) (by kernel_rfl) (by kernel_rfl) (fun _ _ _ h => h) hS3 (fun _ => trivial) rfl ?_
          try simp only [Act.put, List.setIfInBounds_toArray, List.set_cons_zero, List.set_cons_succ, List.getElem_toArray, List.getElem_cons_succ, List.getElem_cons_zero]
          refine take_no 31 rfl (by kernel_rfl) (by kernel_rfl) (by kernel_rfl) (by kernel_rfl) (fun _ _ _ h => h) hS3 (fun _ => trivial) rfl ?_
          try simp only [Act.put, List.setIfInBounds_toArray, List.set_cons_zero, List.set_cons_succ, List.getElem_toArray, List.getElem_cons_succ, List.getElem_cons_zero]
          refine take_no 32 rfl (by kernel_rfl) (by kernel_rfl) (by kernel_rfl) (by kernel_rfl) (fun _ _ _ h => h) hS3 (fun _ => trivial) rfl ?_
          try simp only [Act.put, List.setIfInBounds_toArray, List.set_cons_zero, List.set_cons_succ, List.getElem_toArray, List.getElem_cons_succ, List.getElem_cons_zero]
          refine take_no 33 rfl (by kernel_rfl) (by kernel_rfl) (by kernel_rfl) (by kernel_rfl) (fun _ _ _ h => h) hS3 (fun _ => trivial) rfl ?_
          try simp only [Act.put, List.setIfInBounds_toArray, List.set_cons_zero, List.set_cons_succ, List.getElem_toArray, List.getElem_cons_succ, List.getElem_cons_zero]
          refine take_no 34 rfl (by kernel_rfl) (by kernel_rfl) (by kernel_rfl) (by kernel_rfl) (fun _ _ _ h => h) hS3 (fun _ => trivial) rfl ?_
          try simp only [Act.put, List.setIfInBounds_toArray, List.set_cons_zero, List.set_cons_succ, List.getElem_toArray, List.getElem_cons_succ, List.getElem_cons_zero]
          refine take_no 35 rfl (by kernel_rfl) (by kernel_rfl) (by kernel_rfl) (by kernel_rfl) (fun _ _ _ h => h) hS3 (fun _ => trivial) rfl ?_
          try simp only [Act.put, List.setIfInBounds_toArray, List.set_cons_zero, List.set_cons_succ, List.getElem_toArray, List.getElem_cons_succ, List.getElem_cons_zero]
          refine take_no 36 rfl (by kernel_rfl) (by kernel_rfl) (by kernel_rfl) (by kernel_rfl) (fun _ _ _ h => h) hS3 (fun _ => trivial) rfl ?_
          try simp only [Act.put, List.setIfInBounds_toArray, List.set_cons_zero, List.set_cons_succ, List.getElem_toArray, List.getElem_cons_succ, List.getElem_cons_zero]
          refine take_no 37 rfl (by kernel_rfl) (by kernel_rfl) (by kernel_rfl) (by kernel_rfl) (fun _ _ _ h => h) hS3 (fun _ => trivial) rfl ?_
          try simp only [Act.put, List.setIfInBounds_toArray, List.set_cons_zero, List.set_cons_succ, List.getElem_toArray, List.getElem_cons_succ, List.getElem_cons_zero]
          refine take_no 38 rfl (by kernel_rfl) (by kernel_rfl) (by kernel_rfl) (by kernel_rfl) (fun _ _ _ h => h) hS3 (fun _ => trivial) rfl ?_
          try simp only [Act.put, List.setIfInBounds_toArray, List.set_cons_zero, List.set_cons_succ, List.getElem_toArray, List.getElem_cons_succ, List.getElem_cons_zero]
          refine take_no 39 rfl (by kernel_rfl) (by kernel_rfl) (by kernel_rfl) (by kernel_rfl) (fun _ _ _ h => h) hS3 (fun _ => trivial) rfl ?_
          try simp only [Act.put, List.setIfInBounds_toArray, List.set_cons_zero, List.set_cons_succ, List.getElem_toArray, List.getElem_cons_succ, List.getElem_cons_zero]
          refine take_no 40 rfl (by kernel_rfl) (by kernel_rfl) (by kernel_rfl) (by kernel_rfl) (fun _ _ _ h => h) hS3 (fun _ => trivial) rfl ?_
          try simp only [Act.put, List.setIfInBounds_toArray, List.set_cons_zero, List.set_cons_succ, List.getElem_toArray, List.getElem_cons_succ, List.getElem_cons_zero]
          refine take_S (v := ?v41t) 41 rfl (by kernel_rfl) (by kernel_rfl) (by kernel_rfl) (by kernel_rfl) (fun _ _ _ h => h) hS3 (fun _ => trivial) rfl (fun w' hq => ?h41t) ?_
          case h41t => obtain ⟨q0, q1, q2, q3, q4, q5, q6, q7, q8, q9, q10, -⟩ := hq; change _ = some _ at q0; change _ = some _ at q1; change _ = some _ at q2; change _ = some _ at q3; change _ = some _ at q4; change _ = some _ at q5; change _ = some _ at q6; change _ = some _ at q7; change _ = some _ at q8; change _ = some _ at q9; change _ = some _ at q10; go_simp; try with_reducible rfl
          try simp only [Act.put, List.setIfInBounds_toArray, List.set_cons_zero, List.set_cons_succ, List.getElem_toArray, List.getElem_cons_succ, List.getElem_cons_zero]
          refine done_D (by kernel_rfl) ?_ _
          clear hS3
          have Hn := Lib.hid (show rTo l (i + 1) = (i, cm') from by
            rw [show rTo l (i + 1) = rStep l i (rTo l i) from rfl, Hr.out]
            exact Hst.out i (by rw [Hb1.out]; rfl))
          go_wp2_with fail
          go_roundw
          case rel => exact ⟨i + 1, by omega, by go_num, by rw [Hn.out], by rw [Hn.out], HO3⟩
          case measure => simp [intOf]; omega
        | false =>
          refine take_S (v := ?v10f) 10 rfl (by kernel_rfl) (by kernel_rfl) (by kernel_rfl) (by kernel_rfl) (fun _ _ _ h => h) hS3 (fun _ => trivial) rfl (fun w' hq => ?h10f) ?_
          case h10f => obtain ⟨q0, q1, q2, q3, q4, q5, q6, q7, q8, q9, q10, -⟩ := hq; change _ = some _ at q0; change _ = some _ at q1; change _ = some _ at q2; change _ = some _ at q3; change _ = some _ at q4; change _ = some _ at q5; change _ = some _ at q6; change _ = some _ at q7; change _ = some _ at q8; change _ = some _ at q9; change _ = some _ at q10; go_simp; try with_reducible rfl
          try simp only [Act.put, List.setIfInBounds_toArray, List.set_cons_zero, List.set_cons_succ, List.getElem_toArray, List.getElem_cons_succ, List.getElem_cons_zero]
          refine take_S (v := ?v11f) 11 rfl (by kernel_rfl) (by kernel_rfl) (by kernel_rfl) (by kernel_rfl) (fun _ _ _ h => h) hS3 (fun _ => trivial) rfl (fun w' hq => ?h11f) ?_
          case h11f => obtain ⟨q0, q1, q2, q3, q4, q5, q6, q7, q8, q9, q10, -⟩ := hq; change _ = some _ at q0; change _ = some _ at q1; change _ = some _ at q2; change _ = some _ at q3; change _ = some _ at q4; change _ = some _ at q5; change _ = some _ at q6; change _ = some _ at q7; change _ = some _ at q8; change _ = some _ at q9; change _ = some _ at q10; go_simp; try with_reducible rfl
          try simp only [Act.put, List.setIfInBounds_toArray, List.set_cons_zero, List.set_cons_succ, List.getElem_toArray, List.getElem_cons_succ, List.getElem_cons_zero]
          refine take_S (v := ?v12f) 12 rfl (by kernel_rfl) (by kernel_rfl) (by kernel_rfl) (by kernel_rfl) (fun _ _ _ h => h) hS3 (fun _ => trivial) rfl (fun w' hq => ?h12f) ?_
          case h12f => obtain ⟨q0, q1, q2, q3, q4, q5, q6, q7, q8, q9, q10, -⟩ := hq; change _ = some _ at q0; change _ = some _ at q1; change _ = some _ at q2; change _ = some _ at q3; change _ = some _ at q4; change _ = some _ at q5; change _ = some _ at q6; change _ = some _ at q7; change _ = some _ at q8; change _ = some _ at q9; change _ = some _ at q10; go_simp; try with_reducible rfl
          try simp only [Act.put, List.setIfInBounds_toArray, List.set_cons_zero, List.set_cons_succ, List.getElem_toArray, List.getElem_cons_succ, List.getElem_cons_zero]
          refine take_S (v := ?v13f) 13 rfl (by kernel_rfl) (by kernel_rfl) (by kernel_rfl) (by kernel_rfl) (fun _ _ _ h => h) hS3 (fun _ => trivial) rfl (fun w' hq => ?h13f) ?_
          case h13f => obtain ⟨q0, q1, q2, q3, q4, q5, q6, q7, q8, q9, q10, -⟩ := hq; change _ = some _ at q0; change _ = some _ at q1; change _ = some _ at q2; change _ = some _ at q3; change _ = some _ at q4; change _ = some _ at q5; change _ = some _ at q6; change _ = some _ at q7; change _ = some _ at q8; change _ = some _ at q9; change _ = some _ at q10; go_simp; try with_reducible rfl
          try simp only [Act.put, List.setIfInBounds_toArray, List.set_cons_zero, List.set_cons_succ, List.getElem_toArray, List.getElem_cons_succ, List.getElem_cons_zero]
          refine take_S (v := ?v14f) 14 rfl (by kernel_rfl) (by kernel_rfl) (by kernel_rfl) (by kernel_rfl) (fun _ _ _ h => h) hS3 (fun _ => trivial) rfl (fun w' hq => ?h14f) ?_
          case h14f => obtain ⟨q0, q1, q2, q3, q4, q5, q6, q7, q8, q9, q10, -⟩ := hq; change _ = some _ at q0; change _ = some _ at q1; change _ = some _ at q2; change _ = some _ at q3; change _ = some _ at q4; change _ = some _ at q5; change _ = some _ at q6; change _ = some _ at q7; change _ = some _ at q8; change _ = some _ at q9; change _ = some _ at q10; go_simp; try with_reducible rfl
          try simp only [Act.put, List.setIfInBounds_toArray, List.set_cons_zero, List.set_cons_succ, List.getElem_toArray, List.getElem_cons_succ, List.getElem_cons_zero]
          refine take_S (v := ?v15f) 15 rfl (by kernel_rfl) (by kernel_rfl) (by kernel_rfl) (by kernel_rfl) (fun _ _ _ h => h) hS3 (fun _ => trivial) rfl (fun w' hq => ?h15f) ?_
          case h15f => obtain ⟨q0, q1, q2, q3, q4, q5, q6, q7, q8, q9, q10, -⟩ := hq; change _ = some _ at q0; change _ = some _ at q1; change _ = some _ at q2; change _ = some _ at q3; change _ = some _ at q4; change _ = some _ at q5; change _ = some _ at q6; change _ = some _ at q7; change _ = some _ at q8; change _ = some _ at q9; change _ = some _ at q10; go_simp; try with_reducible rfl
          try simp only [Act.put, List.setIfInBounds_toArray, List.set_cons_zero, List.set_cons_succ, List.getElem_toArray, List.getElem_cons_succ, List.getElem_cons_zero]
          refine take_S (v := ?v16f) 16 rfl (by kernel_rfl) (by kernel_rfl) (by kernel_rfl) (by kernel_rfl) (fun _ _ _ h => h) hS3 (fun _ => trivial) rfl (fun w' hq => ?h16f) ?_
          case h16f => obtain ⟨q0, q1, q2, q3, q4, q5, q6, q7, q8, q9, q10, -⟩ := hq; change _ = some _ at q0; change _ = some _ at q1; change _ = some _ at q2; change _ = some _ at q3; change _ = some _ at q4; change _ = some _ at q5; change _ = some _ at q6; change _ = some _ at q7; change _ = some _ at q8; change _ = some _ at q9; change _ = some _ at q10; go_simp; try with_reducible rfl
          try simp only [Act.put, List.setIfInBounds_toArray, List.set_cons_zero, List.set_cons_succ, List.getElem_toArray, List.getElem_cons_succ, List.getElem_cons_zero]
          refine take_S (v := ?v17f) 17 rfl (by kernel_rfl) (by kernel_rfl) (by kernel_rfl) (by kernel_rfl) (fun _ _ _ h => h) hS3 (fun _ => trivial) rfl (fun w' hq => ?h17f) ?_
          case h17f => obtain ⟨q0, q1, q2, q3, q4, q5, q6, q7, q8, q9, q10, -⟩ := hq; change _ = some _ at q0; change _ = some _ at q1; change _ = some _ at q2; change _ = some _ at q3; change _ = some _ at q4; change _ = some _ at q5; change _ = some _ at q6; change _ = some _ at q7; change _ = some _ at q8; change _ = some _ at q9; change _ = some _ at q10; go_simp; try with_reducible rfl
          try simp only [Act.put, List.setIfInBounds_toArray, List.set_cons_zero, List.set_cons_succ, List.getElem_toArray, List.getElem_cons_succ, List.getElem_cons_zero]
          refine take_S (v := ?v18f) 18 rfl (by kernel_rfl) (by kernel_rfl) (by kernel_rfl) (by kernel_rfl) (fun _ _ _ h => h) hS3 (fun _ => trivial) rfl (fun w' hq => ?h18f) ?_
          case h18f => obtain ⟨q0, q1, q2, q3, q4, q5, q6, q7, q8, q9, q10, -⟩ := hq; change _ = some _ at q0; change _ = some _ at q1; change _ = some _ at q2; change _ = some _ at q3; change _ = some _ at q4; change _ = some _ at q5; change _ = some _ at q6; change _ = some _ at q7; change _ = some _ at q8; change _ = some _ at q9; change _ = some _ at q10; go_simp; try with_reducible rfl
          try simp only [Act.put, List.setIfInBounds_toArray, List.set_cons_zero, List.set_cons_succ, List.getElem_toArray, List.getElem_cons_succ, List.getElem_cons_zero]
          refine take_S (v := ?v19f) 19 rfl (by kernel_rfl) (by kernel_rfl) (by kernel_rfl) (by kernel_rfl) (fun _ _ _ h => h) hS3 (fun _ => trivial) rfl (fun w' hq => ?h19f) ?_
          case h19f => obtain ⟨q0, q1, q2, q3, q4, q5, q6, q7, q8, q9, q10, -⟩ := hq; change _ = some _ at q0; change _ = some _ at q1; change _ = some _ at q2; change _ = some _ at q3; change _ = some _ at q4; change _ = some _ at q5; change _ = some _ at q6; change _ = some _ at q7; change _ = some _ at q8; change _ = some _ at q9; change _ = some _ at q10; go_simp; try with_reducible rfl
          try simp only [Act.put, List.setIfInBounds_toArray, List.set_cons_zero, List.set_cons_succ, List.getElem_toArray, List.getElem_cons_succ, List.getElem_cons_zero]
          refine one_D 20 rfl (by kernel_rfl) (fun KQ hK => ?_)
          go_simp
          refine (rf_Better (r := r2) hea2 hei2 Hr2.out).mono ?_
          rintro x V4 ⟨rfl, hb⟩
          have hS4 : Holds [(b, 4, .slice (some ⟨g, 0, none⟩) l.length lc), (pb, 0, .int .u64 Pi.l), (pb, 1, .int .u64 Pi.b), (pb, 2, .int .u64 Pi.c), (pb, 3, .slice q Pi.es.length d), (g, i * 5, .int .i64 (ki : Int)), (g, a * 5, .int .i64 (ka : Int)), (g, a * 5 + 1, .int .u64 Pa.l), (g, a * 5 + 2, .int .u64 Pa.b), (g, a * 5 + 3, .int .u64 Pa.c), (g, a * 5 + 4, .slice q' Pa.es.length d')] V4 := Holds.below hS3 hb
          have HO4 := Lib.hid (HO3.out.below hb)
          refine hK.out _ _ hS4 (fun _ => trivial) ?_
          clear hK hb hS3 HO3
          cases r2 with
          | true =>
            refine take_S (v := ?v21g) 21 rfl (by kernel_rfl) (by kernel_rfl) (by kernel_rfl) (by kernel_rfl) (fun _ _ _ h => h) hS4 (fun _ => trivial) rfl (fun w' hq => ?h21g) ?_
            case h21g => obtain ⟨q0, q1, q2, q3, q4, q5, q6, q7, q8, q9, q10, -⟩ := hq; change _ = some _ at q0; change _ = some _ at q1; change _ = some _ at q2; change _ = some _ at q3; change _ = some _ at q4; change _ = some _ at q5; change _ = some _ at q6; change _ = some _ at q7; change _ = some _ at q8; change _ = some _ at q9; change _ = some _ at q10; go_simp; try with_reducible rfl
            try simp only [Act.put, List.setIfInBounds_toArray, List.set_cons_zero, List.set_cons_succ, List.getElem_toArray, List.getElem_cons_succ, List.getElem_cons_zero]
            refine take_S (v := ?v22g) 22 rfl (by kernel_rfl) (by kernel_rfl) (by kernel_rfl) (by kernel_rfl) (fun _ _ _ h => h) hS4 (fun _ => trivial) rfl (fun w' hq => ?h22g) ?_
            case h22g => obtain ⟨q0, q1, q2, q3, q4, q5, q6, q7, q8, q9, q10, -⟩ := hq; change _ = some _ at q0; change _ = some _ at q1; change _ = some _ at q2; change _ = some _ at q3; change _ = some _ at q4; change _ = some _ at q5; change _ = some _ at q6; change _ = some _ at q7; change _ = some _ at q8; change _ = some _ at q9; change _ = some _ at q10; go_simp; try with_reducible rfl
            try simp only [Act.put, List.setIfInBounds_toArray, List.set_cons_zero, List.set_cons_succ, List.getElem_toArray, List.getElem_cons_succ, List.getElem_cons_zero]
            refine take_no 23 rfl (by kernel_rfl) (by kernel_rfl) (by kernel_rfl) (by kernel_rfl) (fun _ _ _ h => h) hS4 (fun _ => trivial) rfl ?_
            try simp only [Act.put, List.setIfInBounds_toArray, List.set_cons_zero, List.set_cons_succ, List.getElem_toArray, List.getElem_cons_succ, List.getElem_cons_zero]
            refine take_no 24 rfl (by kernel_rfl) (by kernel_rfl) (by kernel_rfl) (by kernel_rfl) (fun _ _ _ h => h) hS4 (fun _ => trivial) rfl ?_
            try simp only [Act.put, List.setIfInBounds_toArray, List.set_cons_zero, List.set_cons_succ, List.getElem_toArray, List.getElem_cons_succ, List.getElem_cons_zero]
            refine take_no 25 rfl (by kernel_rfl) (by kernel_rfl) (by kernel_rfl) (by kernel_rfl) (fun _ _ _ h => h) hS4 (fun _ => trivial) rfl ?_
            try simp only [Act.put, List.setIfInBounds_toArray, List.set_cons_zero, List.set_cons_succ, List.getElem_toArray, List.getElem_cons_succ, List.getElem_cons_zero]
            refine take_no 26 rfl (by kernel_rfl) (by kernel_rfl) (by kernel_rfl) (by kernel_rfl) (fun _ _ _ h => h) hS4 (fun _ => trivial) rfl ?_
            try simp only [Act.put, List.setIfInBounds_toArray, List.set_cons_zero, List.set_cons_succ, List.getElem_toArray, List.getElem_cons_succ, List.getElem_cons_zero]
            refine take_no 27 rfl (by kernel_rfl) (by kernel_rfl) (by kernel_rfl) (by kernel_rfl) (fun _ _ _ h => h) hS4 (fun _ => trivial) rfl ?_
            try simp only [Act.put, List.setIfInBounds_toArray, List.set_cons_zero, List.set_cons_succ, List.getElem_toArray, List.getElem_cons_succ, List.getElem_cons_zero]
            refine take_no 28 rfl (by kernel_rfl) (by kernel_rfl) (by kernel_rfl) (by kernel_rfl) (fun _ _ _ h => h) hS4 (fun _ => trivial) rfl ?_
            try simp only [Act.put, List.setIfInBounds_toArray, List.set_cons_zero, List.set_cons_succ, List.getElem_toArray, List.getElem_cons_succ, List.getElem_cons_zero]
            refine take_no 29 rfl (by kernel_rfl) (by kernel_rfl) (by kernel_rfl) (by kernel_rfl) (fun _ _ _ h => h) hS4 (fun _ => trivial) rfl ?_
            try simp only [Act.put, List.setIfInBounds_toArray, List.set_cons_zero, List.set_cons_succ, List.getElem_toArray, List.getElem_cons_succ, List.getElem_cons_zero]
            refine take_no 30 rfl (by kernel_rfl) (by kernel_rfl) (by kernel_rfl) (by kernel_rfl) (fun _ _ _ h => h) hS4 (fun _ => trivial) rfl ?_
            try simp only [Act.put, List.setIfInBounds_toArray, List.set_cons_zero, List.set_cons_succ, List.getElem_toArray, List.getElem_cons_succ, List.getElem_cons_zero]
            refine take_no 31 rfl (by kernel_rfl) (by kernel_rfl) (by kernel_rfl) (by kernel_rfl) (fun _ _ _ h => h) hS4 (fun _ => trivial) rfl ?_
            try simp only [Act.put, List.setIfInBounds_toArray, List.set_cons_zero, List.set_cons_succ, List.getElem_toArray, List.getElem_cons_succ, List.getElem_cons_zero]
            refine take_no 32 rfl (by kernel_rfl) (by kernel_rfl) (by kernel_rfl) (by kernel_rfl) (fun _ _ _ h => h) hS4 (fun _ => trivial) rfl ?_
            try simp only [Act.put, List.setIfInBounds_toArray, List.set_cons_zero, List.set_cons_succ, List.getElem_toArray, List.getElem_cons_succ, List.getElem_cons_zero]
            refine take_no 33 rfl (by kernel_rfl) (by kernel_rfl) (by kernel_rfl) (by kernel_rfl) (fun _ _ _ h => h) hS4 (fun _ => trivial) rfl ?_
            try simp only [Act.put, List.setIfInBounds_toArray, List.set_cons_zero, List.set_cons_succ, List.getElem_toArray, List.getElem_cons_succ, List.getElem_cons_zero]
            refine take_no 34 rfl (by kernel_rfl) (by kernel_rfl) (by kernel_rfl) (by kernel_rfl) (fun _ _ _ h => h) hS4 (fun _ => trivial) rfl ?_
            try simp only [Act.put, List.setIfInBounds_toArray, List.set_cons_zero, List.set_cons_succ, List.getElem_toArray, List.getElem_cons_succ, List.getElem_cons_zero]
            refine take_no 35 rfl (by kernel_rfl) (by kernel_rfl) (by kernel_rfl) (by kernel_rfl) (fun _ _ _ h => h) hS4 (fun _ => trivial) rfl ?_
            try simp only [Act.put, List.setIfInBounds_toArray, List.set_cons_zero, List.set_cons_succ, List.getElem_toArray, List.getElem_cons_succ, List.getElem_cons_zero]
            refine take_no 36 rfl (by kernel_rfl) (by kernel_rfl) (by kernel_rfl) (by kernel_rfl) (fun _ _ _ h => h) hS4 (fun _ => trivial) rfl ?_
            try simp only [Act.put, List.setIfInBounds_toArray, List.set_cons_zero, List.set_cons_succ, List.getElem_toArray, List.getElem_cons_succ, List.getElem_cons_zero]
            refine take_no 37 rfl (by kernel_rfl) (by kernel_rfl) (by kernel_rfl) (by kernel_rfl) (fun _ _ _ h => h) hS4 (fun _ => trivial) rfl ?_
            try simp only [Act.put, List.setIfInBounds_toArray, List.set_cons_zero, List.set_cons_succ, List.getElem_toArray, List.getElem_cons_succ, List.getElem_cons_zero]
            refine take_no 38 rfl (by kernel_rfl) (by kernel_rfl) (by kernel_rfl) (by kernel_rfl) (fun _ _ _ h => h) hS4 (fun _ => trivial) rfl ?_
            try simp only [Act.put, List.setIfInBounds_toArray, List.set_cons_zero, List.set_cons_succ, List.getElem_toArray, List.getElem_cons_succ, List.getElem_cons_zero]
            refine take_no 39 rfl (by kernel_rfl) (by kernel_rfl) (by kernel_rfl) (by kernel_rfl) (fun _ _ _ h => h) hS4 (fun _ => trivial) rfl ?_
            try simp only [Act.put, List.setIfInBounds_toArray, List.set_cons_zero, List.set_cons_succ, List.getElem_toArray, List.getElem_cons_succ, List.getElem_cons_zero]
            refine take_S (v := ?v40g) 40 rfl (by kernel_rfl) (by kernel_rfl) (by kernel_rfl) (by kernel_rfl) (fun _ _ _ h => h) hS4 (fun _ => trivial) rfl (fun w' hq => ?h40g) ?_
            case h40g => obtain ⟨q0, q1, q2, q3, q4, q5, q6, q7, q8, q9, q10, -⟩ := hq; change _ = some _ at q0; change _ = some _ at q1; change _ = some _ at q2; change _ = some _ at q3; change _ = some _ at q4; change _ = some _ at q5; change _ = some _ at q6; change _ = some _ at q7; change _ = some _ at q8; change _ = some _ at q9; change _ = some _ at q10; go_simp; try with_reducible rfl
            try simp only [Act.put, List.setIfInBounds_toArray, List.set_cons_zero, List.set_cons_succ, List.getElem_toArray, List.getElem_cons_succ, List.getElem_cons_zero]
            refine take_S (v := ?v41g) 41 rfl (by kernel_rfl) (by kernel_rfl) (by kernel_rfl) (by kernel_rfl) (fun _ _ _ h => h) hS4 (fun _ => trivial) rfl (fun w' hq => ?h41g) ?_
            case h41g => obtain ⟨q0, q1, q2, q3, q4, q5, q6, q7, q8, q9, q10, -⟩ := hq; change _ = some _ at q0; change _ = some _ at q1; change _ = some _ at q2; change _ = some _ at q3; change _ = some _ at q4; change _ = some _ at q5; change _ = some _ at q6; change _ = some _ at q7; change _ = some _ at q8; change _ = some _ at q9; change _ = some _ at q10; go_simp; try with_reducible rfl
            try simp only [Act.put, List.setIfInBounds_toArray, List.set_cons_zero, List.set_cons_succ, List.getElem_toArray, List.getElem_cons_succ, List.getElem_cons_zero]
            refine done_D (by kernel_rfl) ?_ _
            clear hS4
            have Hn := Lib.hid (show rTo l (i + 1) = (a, cm') from by
              rw [show rTo l (i + 1) = rStep l i (rTo l i) from rfl, Hr.out]
              exact Hst.out a (by rw [Hb1.out, Hb2.out]; rfl))
            go_wp2_with fail
            go_roundw
            case rel => exact ⟨i + 1, by omega, by go_num, by rw [Hn.out], by rw [Hn.out], HO4⟩
            case measure => simp [intOf]; omega
          | false =>
            by_cases hkk : ki < ka
            · have dk : decide ((ki : Int) < (ka : Int)) = true := by simpa using hkk
              refine take_S (v := ?v21h) 21 rfl (by kernel_rfl) (by kernel_rfl) (by kernel_rfl) (by kernel_rfl) (fun _ _ _ h => h) hS4 (fun _ => trivial) rfl (fun w' hq => ?h21h) ?_
              case h21h => obtain ⟨q0, q1, q2, q3, q4, q5, q6, q7, q8, q9, q10, -⟩ := hq; change _ = some _ at q0; change _ = some _ at q1; change _ = some _ at q2; change _ = some _ at q3; change _ = some _ at q4; change _ = some _ at q5; change _ = some _ at q6; change _ = some _ at q7; change _ = some _ at q8; change _ = some _ at q9; change _ = some _ at q10; go_simp; try with_reducible rfl
              try simp only [Act.put, List.setIfInBounds_toArray, List.set_cons_zero, List.set_cons_succ, List.getElem_toArray, List.getElem_cons_succ, List.getElem_cons_zero]
              refine take_S (v := ?v22h) 22 rfl (by kernel_rfl) (by kernel_rfl) (by kernel_rfl) (by kernel_rfl) (fun _ _ _ h => h) hS4 (fun _ => trivial) rfl (fun w' hq => ?h22h) ?_
              case h22h => obtain ⟨q0, q1, q2, q3, q4, q5, q6, q7, q8, q9, q10, -⟩ := hq; change _ = some _ at q0; change _ = some _ at q1; change _ = some _ at q2; change _ = some _ at q3; change _ = some _ at q4; change _ = some _ at q5; change _ = some _ at q6; change _ = some _ at q7; change _ = some _ at q8; change _ = some _ at q9; change _ = some _ at q10; go_simp; try with_reducible rfl
              try simp only [Act.put, List.setIfInBounds_toArray, List.set_cons_zero, List.set_cons_succ, List.getElem_toArray, List.getElem_cons_succ, List.getElem_cons_zero]
              refine take_S (v := ?v23h) 23 rfl (by kernel_rfl) (by kernel_rfl) (by kernel_rfl) (by kernel_rfl) (fun _ _ _ h => h) hS4 (fun _ => trivial) rfl (fun w' hq => ?h23h) ?_
              case h23h => obtain ⟨q0, q1, q2, q3, q4, q5, q6, q7, q8, q9, q10, -⟩ := hq; change _ = some _ at q0; change _ = some _ at q1; change _ = some _ at q2; change _ = some _ at q3; change _ = some _ at q4; change _ = some _ at q5; change _ = some _ at q6; change _ = some _ at q7; change _ = some _ at q8; change _ = some _ at q9; change _ = some _ at q10; go_simp; try with_reducible rfl
              try simp only [Act.put, List.setIfInBounds_toArray, List.set_cons_zero, List.set_cons_succ, List.getElem_toArray, List.getElem_cons_succ, List.getElem_cons_zero]
              refine take_S (v := ?v24h) 24 rfl (by kernel_rfl) (by kernel_rfl) (by kernel_rfl) (by kernel_rfl) (fun _ _ _ h => h) hS4 (fun _ => trivial) rfl (fun w' hq => ?h24h) ?_
              case h24h => obtain ⟨q0, q1, q2, q3, q4, q5, q6, q7, q8, q9, q10, -⟩ := hq; change _ = some _ at q0; change _ = some _ at q1; change _ = some _ at q2; change _ = some _ at q3; change _ = some _ at q4; change _ = some _ at q5; change _ = some _ at q6; change _ = some _ at q7; change _ = some _ at q8; change _ = some _ at q9; change _ = some _ at q10; go_simp; try with_reducible rfl
              try simp only [Act.put, List.setIfInBounds_toArray, List.set_cons_zero, List.set_cons_succ, List.getElem_toArray, List.getElem_cons_succ, List.getElem_cons_zero]
              refine take_S (v := ?v25h) 25 rfl (by kernel_rfl) (by kernel_rfl) (by kernel_rfl) (by kernel_rfl) (fun _ _ _ h => h) hS4 (fun _ => trivial) rfl (fun w' hq => ?h25h) ?_
              case h25h => obtain ⟨q0, q1, q2, q3, q4, q5, q6, q7, q8, q9, q10, -⟩ := hq; change _ = some _ at q0; change _ = some _ at q1; change _ = some _ at q2; change _ = some _ at q3; change _ = some _ at q4; change _ = some _ at q5; change _ = some _ at q6; change _ = some _ at q7; change _ = some _ at q8; change _ = some _ at q9; change _ = some _ at q10; go_simp; try with_reducible rfl
              try simp only [Act.put, List.setIfInBounds_toArray, List.set_cons_zero, List.set_cons_succ, List.getElem_toArray, List.getElem_cons_succ, List.getElem_cons_zero]
              refine take_S (v := ?v26h) 26 rfl (by kernel_rfl) (by kernel_rfl) (by kernel_rfl) (by kernel_rfl) (fun _ _ _ h => h) hS4 (fun _ => trivial) rfl (fun w' hq => ?h26h) ?_
              case h26h => obtain ⟨q0, q1, q2, q3, q4, q5, q6, q7, q8, q9, q10, -⟩ := hq; change _ = some _ at q0; change _ = some _ at q1; change _ = some _ at q2; change _ = some _ at q3; change _ = some _ at q4; change _ = some _ at q5; change _ = some _ at q6; change _ = some _ at q7; change _ = some _ at q8; change _ = some _ at q9; change _ = some _ at q10; go_simp; try with_reducible rfl
              try simp only [Act.put, List.setIfInBounds_toArray, List.set_cons_zero, List.set_cons_succ, List.getElem_toArray, List.getElem_cons_succ, List.getElem_cons_zero]
              refine take_S (v := ?v27h) 27 rfl (by kernel_rfl) (by kernel_rfl) (by kernel_rfl) (by kernel_rfl) (fun _ _ _ h => h) hS4 (fun _ => trivial) rfl (fun w' hq => ?h27h) ?_
              case h27h => obtain ⟨q0, q1, q2, q3, q4, q5, q6, q7, q8, q9, q10, -⟩ := hq; change _ = some _ at q0; change _ = some _ at q1; change _ = some _ at q2; change _ = some _ at q3; change _ = some _ at q4; change _ = some _ at q5; change _ = some _ at q6; change _ = some _ at q7; change _ = some _ at q8; change _ = some _ at q9; change _ = some _ at q10; go_simp; try with_reducible rfl
              try simp only [Act.put, List.setIfInBounds_toArray, List.set_cons_zero, List.set_cons_succ, List.getElem_toArray, List.getElem_cons_succ, List.getElem_cons_zero]
              refine take_S (v := ?v28h) 28 rfl (by kernel_rfl) (by kernel_rfl) (by kernel_rfl) (by kernel_rfl) (fun _ _ _ h => h) hS4 (fun _ => trivial) rfl (fun w' hq => ?h28h) ?_
              case h28h => obtain ⟨q0, q1, q2, q3, q4, q5, q6, q7, q8, q9, q10, -⟩ := hq; change _ = some _ at q0; change _ = some _ at q1; change _ = some _ at q2; change _ = some _ at q3; change _ = some _ at q4; change _ = some _ at q5; change _ = some _ at q6; change _ = some _ at q7; change _ = some _ at q8; change _ = some _ at q9; change _ = some _ at q10; go_simp; try with_reducible rfl
              try simp only [Act.put, List.setIfInBounds_toArray, List.set_cons_zero, List.set_cons_succ, List.getElem_toArray, List.getElem_cons_succ, List.getElem_cons_zero]
              refine take_S (v := ?v29h) 29 rfl (by kernel_rfl) (by kernel_rfl) (by kernel_rfl) (by kernel_rfl) (fun _ _ _ h => h) hS4 (fun _ => trivial) rfl (fun w' hq => ?h29h) ?_
              case h29h => obtain ⟨q0, q1, q2, q3, q4, q5, q6, q7, q8, q9, q10, -⟩ := hq; change _ = some _ at q0; change _ = some _ at q1; change _ = some _ at q2; change _ = some _ at q3; change _ = some _ at q4; change _ = some _ at q5; change _ = some _ at q6; change _ = some _ at q7; change _ = some _ at q8; change _ = some _ at q9; change _ = some _ at q10; go_simp; try with_reducible rfl
              try simp only [Act.put, List.setIfInBounds_toArray, List.set_cons_zero, List.set_cons_succ, List.getElem_toArray, List.getElem_cons_succ, List.getElem_cons_zero]
              refine take_S (v := ?v30h) 30 rfl (by kernel_rfl) (by kernel_rfl) (by kernel_rfl) (by kernel_rfl) (fun _ _ _ h => h) hS4 (fun _ => trivial) rfl (fun w' hq => ?h30h) ?_
              case h30h => obtain ⟨q0, q1, q2, q3, q4, q5, q6, q7, q8, q9, q10, -⟩ := hq; change _ = some _ at q0; change _ = some _ at q1; change _ = some _ at q2; change _ = some _ at q3; change _ = some _ at q4; change _ = some _ at q5; change _ = some _ at q6; change _ = some _ at q7; change _ = some _ at q8; change _ = some _ at q9; change _ = some _ at q10; go_simp; try with_reducible rfl
              try simp only [Act.put, List.setIfInBounds_toArray, List.set_cons_zero, List.set_cons_succ, List.getElem_toArray, List.getElem_cons_succ, List.getElem_cons_zero]
              refine take_S (v := ?v31h) 31 rfl (by kernel_rfl) (by kernel_rfl) (by kernel_rfl) (by kernel_rfl) (fun _ _ _ h => h) hS4 (fun _ => trivial) rfl (fun w' hq => ?h31h) ?_
              case h31h => obtain ⟨q0, q1, q2, q3, q4, q5, q6, q7, q8, q9, q10, -⟩ := hq; change _ = some _ at q0; change _ = some _ at q1; change _ = some _ at q2; change _ = some _ at q3; change _ = some _ at q4; change _ = some _ at q5; change _ = some _ at q6; change _ = some _ at q7; change _ = some _ at q8; change _ = some _ at q9; change _ = some _ at q10; go_simp; try with_reducible rfl
              try simp only [Act.put, List.setIfInBounds_toArray, List.set_cons_zero, List.set_cons_succ, List.getElem_toArray, List.getElem_cons_succ, List.getElem_cons_zero]
              refine take_S (v := ?v32h) 32 rfl (by kernel_rfl) (by kernel_rfl) (by kernel_rfl) (by kernel_rfl) (fun _ _ _ h => h) hS4 (fun _ => trivial) rfl (fun w' hq => ?h32h) ?_
              case h32h => obtain ⟨q0, q1, q2, q3, q4, q5, q6, q7, q8, q9, q10, -⟩ := hq; change _ = some _ at q0; change _ = some _ at q1; change _ = some _ at q2; change _ = some _ at q3; change _ = some _ at q4; change _ = some _ at q5; change _ = some _ at q6; change _ = some _ at q7; change _ = some _ at q8; change _ = some _ at q9; change _ = some _ at q10; go_simp; try with_reducible rfl
              try simp only [Act.put, List.setIfInBounds_toArray, List.set_cons_zero, List.set_cons_succ, List.getElem_toArray, List.getElem_cons_succ, List.getElem_cons_zero]
              refine take_S (v := ?v33h) 33 rfl (by kernel_rfl) (by kernel_rfl) (by kernel_rfl) (by kernel_rfl) (fun _ _ _ h => h) hS4 (fun _ => trivial) rfl (fun w' hq => ?h33h) ?_
              case h33h => obtain ⟨q0, q1, q2, q3, q4, q5, q6, q7, q8, q9, q10, -⟩ := hq; change _ = some _ at q0; change _ = some _ at q1; change _ = some _ at q2; change _ = some _ at q3; change _ = some _ at q4; change _ = some _ at q5; change _ = some _ at q6; change _ = some _ at q7; change _ = some _ at q8; change _ = some _ at q9; change _ = some _ at q10; go_simp; try with_reducible rfl
              try simp only [Act.put, List.setIfInBounds_toArray, List.set_cons_zero, List.set_cons_succ, List.getElem_toArray, List.getElem_cons_succ, List.getElem_cons_zero]
              refine take_S (v := ?v34h) 34 rfl (by kernel_rfl) (by kernel_rfl) (by kernel_rfl) (by kernel_rfl) (fun _ _ _ h => h) hS4 (fun _ => trivial) rfl (fun w' hq => ?h34h) ?_
              case h34h => obtain ⟨q0, q1, q2, q3, q4, q5, q6, q7, q8, q9, q10, -⟩ := hq; change _ = some _ at q0; change _ = some _ at q1; change _ = some _ at q2; change _ = some _ at q3; change _ = some _ at q4; change _ = some _ at q5; change _ = some _ at q6; change _ = some _ at q7; change _ = some _ at q8; change _ = some _ at q9; change _ = some _ at q10; go_simp; try with_reducible rfl
              try simp only [Act.put, List.setIfInBounds_toArray, List.set_cons_zero, List.set_cons_succ, List.getElem_toArray, List.getElem_cons_succ, List.getElem_cons_zero]
              refine take_S (v := ?v35h) 35 rfl (by kernel_rfl) (by kernel_rfl) (by kernel_rfl) (by kernel_rfl) (fun _ _ _ h => h) hS4 (fun _ => trivial) rfl (fun w' hq => ?h35h) ?_
              case h35h => obtain ⟨q0, q1, q2, q3, q4, q5, q6, q7, q8, q9, q10, -⟩ := hq; change _ = some _ at q0; change _ = some _ at q1; change _ = some _ at q2; change _ = some _ at q3; change _ = some _ at q4; change _ = some _ at q5; change _ = some _ at q6; change _ = some _ at q7; change _ = some _ at q8; change _ = some _ at q9; change _ = some _ at q10; go_simp; try with_reducible rfl
              try simp only [Act.put, List.setIfInBounds_toArray, List.set_cons_zero, List.set_cons_succ, List.getElem_toArray, List.getElem_cons_succ, List.getElem_cons_zero]
              refine take_S (v := ?v36h) 36 rfl (by kernel_rfl) (by kernel_rfl) (by kernel_rfl) (by kernel_rfl) (fun _ _ _ h => h) hS4 (fun _ => trivial) rfl (fun w' hq => ?h36h) ?_
              case h36h => obtain ⟨q0, q1, q2, q3, q4, q5, q6, q7, q8, q9, q10, -⟩ := hq; change _ = some _ at q0; change _ = some _ at q1; change _ = some _ at q2; change _ = some _ at q3; change _ = some _ at q4; change _ = some _ at q5; change _ = some _ at q6; change _ = some _ at q7; change _ = some _ at q8; change _ = some _ at q9; change _ = some _ at q10; go_simp; try with_reducible rfl
              try simp only [Act.put, List.setIfInBounds_toArray, List.set_cons_zero, List.set_cons_succ, List.getElem_toArray, List.getElem_cons_succ, List.getElem_cons_zero]
              refine take_S (v := ?v37h) 37 rfl (by kernel_rfl) (by kernel_rfl) (by kernel_rfl) (by kernel_rfl) (fun _ _ _ h => h) hS4 (fun _ => trivial) rfl (fun w' hq => ?h37h) ?_
              case h37h => obtain ⟨q0, q1, q2, q3, q4, q5, q6, q7, q8, q9, q10, -⟩ := hq; change _ = some _ at q0; change _ = some _ at q1; change _ = some _ at q2; change _ = some _ at q3; change _ = some _ at q4; change _ = some _ at q5; change _ = some _ at q6; change _ = some _ at q7; change _ = some _ at q8; change _ = some _ at q9; change _ = some _ at q10; go_simp; try with_reducible rfl
              try simp only [Act.put, List.setIfInBounds_toArray, List.set_cons_zero, List.set_cons_succ, List.getElem_toArray, List.getElem_cons_succ, List.getElem_cons_zero]
              refine take_S (v := ?v38h) 38 rfl (by kernel_rfl) (by kernel_rfl) (by kernel_rfl) (by kernel_rfl) (fun _ _ _ h => h) hS4 (fun _ => trivial) rfl (fun w' hq => ?h38h) ?_
              case h38h => obtain ⟨q0, q1, q2, q3, q4, q5, q6, q7, q8, q9, q10, -⟩ := hq; change _ = some _ at q0; change _ = some _ at q1; change _ = some _ at q2; change _ = some _ at q3; change _ = some _ at q4; change _ = some _ at q5; change _ = some _ at q6; change _ = some _ at q7; change _ = some _ at q8; change _ = some _ at q9; change _ = some _ at q10; go_simp; try with_reducible rfl
              try simp only [Act.put, List.setIfInBounds_toArray, List.set_cons_zero, List.set_cons_succ, List.getElem_toArray, List.getElem_cons_succ, List.getElem_cons_zero]
              refine take_S (v := ?v39h) 39 rfl (by kernel_rfl) (by kernel_rfl) (by kernel_rfl) (by kernel_rfl) (fun _ _ _ h => h) hS4 (fun _ => trivial) rfl (fun w' hq => ?h39h) ?_
              case h39h => obtain ⟨q0, q1, q2, q3, q4, q5, q6, q7, q8, q9, q10, -⟩ := hq; change _ = some _ at q0; change _ = some _ at q1; change _ = some _ at q2; change _ = some _ at q3; change _ = some _ at q4; change _ = some _ at q5; change _ = some _ at q6; change _ = some _ at q7; change _ = some _ at q8; change _ = some _ at q9; change _ = some _ at q10; go_simp; try with_reducible rfl
              try simp only [Act.put, List.setIfInBounds_toArray, List.set_cons_zero, List.set_cons_succ, List.getElem_toArray, List.getElem_cons_succ, List.getElem_cons_zero]
              refine take_S (v := ?v40h) 40 rfl (by kernel_rfl) (by kernel_rfl) (by kernel_rfl) (by kernel_rfl) (fun _ _ _ h => h) hS4 (fun _ => trivial) rfl (fun w' hq => ?h40h) ?_
              case h40h => obtain ⟨q0, q1, q2, q3, q4, q5, q6, q7, q8, q9, q10, -⟩ := hq; change _ = some _ at q0; change _ = some _ at q1; change _ = some _ at q2; change _ = some _ at q3; change _ = some _ at q4; change _ = some _ at q5; change _ = some _ at q6; change _ = some _ at q7; change _ = some _ at q8; change _ = some _ at q9; change _ = some _ at q10; go_simp; try with_reducible rfl
              try simp only [Act.put, List.setIfInBounds_toArray, List.set_cons_zero, List.set_cons_succ, List.getElem_toArray, List.getElem_cons_succ, List.getElem_cons_zero]
              refine take_S (v := ?v41h) 41 rfl (by kernel_rfl) (by kernel_rfl) (by kernel_rfl) (by kernel_rfl) (fun _ _ _ h => h) hS4 (fun _ => trivial) rfl (fun w' hq => ?h41h) ?_
              case h41h => obtain ⟨q0, q1, q2, q3, q4, q5, q6, q7, q8, q9, q10, -⟩ := hq; change _ = some _ at q0; change _ = some _ at q1; change _ = some _ at q2; change _ = some _ at q3; change _ = some _ at q4; change _ = some _ at q5; change _ = some _ at q6; change _ = some _ at q7; change _ = some _ at q8; change _ = some _ at q9; change _ = some _ at q10; go_simp; try with_reducible rfl
              try simp only [Act.put, List.setIfInBounds_toArray, List.set_cons_zero, List.set_cons_succ, List.getElem_toArray, List.getElem_cons_succ, List.getElem_cons_zero]
              refine done_D (by kernel_rfl) ?_ _
              clear hS4
              have Hn := Lib.hid (show rTo l (i + 1) = (i, cm') from by
                rw [show rTo l (i + 1) = rStep l i (rTo l i) from rfl, Hr.out]
                exact Hst.out i (by rw [Hb1.out, Hb2.out, decide_eq_true hkk]; rfl))
              clear hkk dk
              go_wp2_with fail
              go_roundw
              case rel => exact ⟨i + 1, by omega, by go_num, by rw [Hn.out], by rw [Hn.out], HO4⟩
              case measure => simp [intOf]; omega
            · have dk : decide ((ki : Int) < (ka : Int)) = false := by simpa using hkk
              refine take_S (v := ?v21i) 21 rfl (by kernel_rfl) (by kernel_rfl) (by kernel_rfl) (by kernel_rfl) (fun _ _ _ h => h) hS4 (fun _ => trivial) rfl (fun w' hq => ?h21i) ?_
              case h21i => obtain ⟨q0, q1, q2, q3, q4, q5, q6, q7, q8, q9, q10, -⟩ := hq; change _ = some _ at q0; change _ = some _ at q1; change _ = some _ at q2; change _ = some _ at q3; change _ = some _ at q4; change _ = some _ at q5; change _ = some _ at q6; change _ = some _ at q7; change _ = some _ at q8; change _ = some _ at q9; change _ = some _ at q10; go_simp; try with_reducible rfl
              try simp only [Act.put, List.setIfInBounds_toArray, List.set_cons_zero, List.set_cons_succ, List.getElem_toArray, List.getElem_cons_succ, List.getElem_cons_zero]
              refine take_S (v := ?v22i) 22 rfl (by kernel_rfl) (by kernel_rfl) (by kernel_rfl) (by kernel_rfl) (fun _ _ _ h => h) hS4 (fun _ => trivial) rfl (fun w' hq => ?h22i) ?_
              case h22i => obtain ⟨q0, q1, q2, q3, q4, q5, q6, q7, q8, q9, q10, -⟩ := hq; change _ = some _ at q0; change _ = some _ at q1; change _ = some _ at q2; change _ = some _ at q3; change _ = some _ at q4; change _ = some _ at q5; change _ = some _ at q6; change _ = some _ at q7; change _ = some _ at q8; change _ = some _ at q9; change _ = some _ at q10; go_simp; try with_reducible rfl
              try simp only [Act.put, List.setIfInBounds_toArray, List.set_cons_zero, List.set_cons_succ, List.getElem_toArray, List.getElem_cons_succ, List.getElem_cons_zero]
              refine take_S (v := ?v23i) 23 rfl (by kernel_rfl) (by kernel_rfl) (by kernel_rfl) (by kernel_rfl) (fun _ _ _ h => h) hS4 (fun _ => trivial) rfl (fun w' hq => ?h23i) ?_
              case h23i => obtain ⟨q0, q1, q2, q3, q4, q5, q6, q7, q8, q9, q10, -⟩ := hq; change _ = some _ at q0; change _ = some _ at q1; change _ = some _ at q2; change _ = some _ at q3; change _ = some _ at q4; change _ = some _ at q5; change _ = some _ at q6; change _ = some _ at q7; change _ = some _ at q8; change _ = some _ at q9; change _ = some _ at q10; go_simp; try with_reducible rfl
              try simp only [Act.put, List.setIfInBounds_toArray, List.set_cons_zero, List.set_cons_succ, List.getElem_toArray, List.getElem_cons_succ, List.getElem_cons_zero]
              refine take_S (v := ?v24i) 24 rfl (by kernel_rfl) (by kernel_rfl) (by kernel_rfl) (by kernel_rfl) (fun _ _ _ h => h) hS4 (fun _ => trivial) rfl (fun w' hq => ?h24i) ?_
              case h24i => obtain ⟨q0, q1, q2, q3, q4, q5, q6, q7, q8, q9, q10, -⟩ := hq; change _ = some _ at q0; change _ = some _ at q1; change _ = some _ at q2; change _ = some _ at q3; change _ = some _ at q4; change _ = some _ at q5; change _ = some _ at q6; change _ = some _ at q7; change _ = some _ at q8; change _ = some _ at q9; change _ = some _ at q10; go_simp; try with_reducible rfl
              try simp only [Act.put, List.setIfInBounds_toArray, List.set_cons_zero, List.set_cons_succ, List.getElem_toArray, List.getElem_cons_succ, List.getElem_cons_zero]
              refine take_S (v := ?v25i) 25 rfl (by kernel_rfl) (by kernel_rfl) (by kernel_rfl) (by kernel_rfl) (fun _ _ _ h => h) hS4 (fun _ => trivial) rfl (fun w' hq => ?h25i) ?_
              case h25i => obtain ⟨q0, q1, q2, q3, q4, q5, q6, q7, q8, q9, q10, -⟩ := hq; change _ = some _ at q0; change _ = some _ at q1; change _ = some _ at q2; change _ = some _ at q3; change _ = some _ at q4; change _ = some _ at q5; change _ = some _ at q6; change _ = some _ at q7; change _ = some _ at q8; change _ = some _ at q9; change _ = some _ at q10; go_simp; try with_reducible rfl
              try simp only [Act.put, List.setIfInBounds_toArray, List.set_cons_zero, List.set_cons_succ, List.getElem_toArray, List.getElem_cons_succ, List.getElem_cons_zero]
              refine take_S (v := ?v26i) 26 rfl (by kernel_rfl) (by kernel_rfl) (by kernel_rfl) (by kernel_rfl) (fun _ _ _ h => h) hS4 (fun _ => trivial) rfl (fun w' hq => ?h26i) ?_
              case h26i => obtain ⟨q0, q1, q2, q3, q4, q5, q6, q7, q8, q9, q10, -⟩ := hq; change _ = some _ at q0; change _ = some _ at q1; change _ = some _ at q2; change _ = some _ at q3; change _ = some _ at q4; change _ = some _ at q5; change _ = some _ at q6; change _ = some _ at q7; change _ = some _ at q8; change _ = some _ at q9; change _ = some _ at q10; go_simp; try with_reducible rfl
              try simp only [Act.put, List.setIfInBounds_toArray, List.set_cons_zero, List.set_cons_succ, List.getElem_toArray, List.getElem_cons_succ, List.getElem_cons_zero]
              refine take_S (v := ?v27i) 27 rfl (by kernel_rfl) (by kernel_rfl) (by kernel_rfl) (by kernel_rfl) (fun _ _ _ h => h) hS4 (fun _ => trivial) rfl (fun w' hq => ?h27i) ?_
              case h27i => obtain ⟨q0, q1, q2, q3, q4, q5, q6, q7, q8, q9, q10, -⟩ := hq; change _ = some _ at q0; change _ = some _ at q1; change _ = some _ at q2; change _ = some _ at q3; change _ = some _ at q4; change _ = some _ at q5; change _ = some _ at q6; change _ = some _ at q7; change _ = some _ at q8; change _ = some _ at q9; change _ = some _ at q10; go_simp; try with_reducible rfl
              try simp only [Act.put, List.setIfInBounds_toArray, List.set_cons_zero, List.set_cons_succ, List.getElem_toArray, List.getElem_cons_succ, List.getElem_cons_zero]
              refine take_S (v := ?v28i) 28 rfl (by kernel_rfl) (by kernel_rfl) (by kernel_rfl) (by kernel_rfl) (fun _ _ _ h => h) hS4 (fun _ => trivial) rfl (fun w' hq => ?h28i) ?_
              case h28i => obtain ⟨q0, q1, q2, q3, q4, q5, q6, q7, q8, q9, q10, -⟩ := hq; change _ = some _ at q0; change _ = some _ at q1; change _ = some _ at q2; change _ = some _ at q3; change _ = some _ at q4; change _ = some _ at q5; change _ = some _ at q6; change _ = some _ at q7; change _ = some _ at q8; change _ = some _ at q9; change _ = some _ at q10; go_simp; try with_reducible rfl
              try simp only [Act.put, List.setIfInBounds_toArray, List.set_cons_zero, List.set_cons_succ, List.getElem_toArray, List.getElem_cons_succ, List.getElem_cons_zero]
              refine take_S (v := ?v29i) 29 rfl (by kernel_rfl) (by kernel_rfl) (by kernel_rfl) (by kernel_rfl) (fun _ _ _ h => h) hS4 (fun _ => trivial) rfl (fun w' hq => ?h29i) ?_
              case h29i => obtain ⟨q0, q1, q2, q3, q4, q5, q6, q7, q8, q9, q10, -⟩ := hq; change _ = some _ at q0; change _ = some _ at q1; change _ = some _ at q2; change _ = some _ at q3; change _ = some _ at q4; change _ = some _ at q5; change _ = some _ at q6; change _ = some _ at q7; change _ = some _ at q8; change _ = some _ at q9; change _ = some _ at q10; go_simp; try with_reducible rfl
              try simp only [Act.put, List.setIfInBounds_toArray, List.set_cons_zero, List.set_cons_succ, List.getElem_toArray, List.getElem_cons_succ, List.getElem_cons_zero]
              refine take_S (v := ?v30i) 30 rfl (by kernel_rfl) (by kernel_rfl) (by kernel_rfl) (by kernel_rfl) (fun _ _ _ h => h) hS4 (fun _ => trivial) rfl (fun w' hq => ?h30i) ?_
              case h30i => obtain ⟨q0, q1, q2, q3, q4, q5, q6, q7, q8, q9, q10, -⟩ := hq; change _ = some _ at q0; change _ = some _ at q1; change _ = some _ at q2; change _ = some _ at q3; change _ = some _ at q4; change _ = some _ at q5; change _ = some _ at q6; change _ = some _ at q7; change _ = some _ at q8; change _ = some _ at q9; change _ = some _ at q10; go_simp; try with_reducible rfl
              try simp only [Act.put, List.setIfInBounds_toArray, List.set_cons_zero, List.set_cons_succ, List.getElem_toArray, List.getElem_cons_succ, List.getElem_cons_zero]
              refine take_S (v := ?v31i) 31 rfl (by kernel_rfl) (by kernel_rfl) (by kernel_rfl) (by kernel_rfl) (fun _ _ _ h => h) hS4 (fun _ => trivial) rfl (fun w' hq => ?h31i) ?_
              case h31i => obtain ⟨q0, q1, q2, q3, q4, q5, q6, q7, q8, q9, q10, -⟩ := hq; change _ = some _ at q0; change _ = some _ at q1; change _ = some _ at q2; change _ = some _ at q3; change _ = some _ at q4; change _ = some _ at q5; change _ = some _ at q6; change _ = some _ at q7; change _ = some _ at q8; change _ = some _ at q9; change _ = some _ at q10; go_simp; try with_reducible rfl
              try simp only [Act.put, List.setIfInBounds_toArray, List.set_cons_zero, List.set_cons_succ, List.getElem_toArray, List.getElem_cons_succ, List.getElem_cons_zero]
              refine take_S (v := ?v32i) 32 rfl (by kernel_rfl) (by kernel_rfl) (by kernel_rfl) (by kernel_rfl) (fun _ _ _ h => h) hS4 (fun _ => trivial) rfl (fun w' hq => ?h32i) ?_
              case h32i => obtain ⟨q0, q1, q2, q3, q4, q5, q6, q7, q8, q9, q10, -⟩ := hq; change _ = some _ at q0; change _ = some _ at q1; change _ = some _ at q2; change _ = some _ at q3; change _ = some _ at q4; change _ = some _ at q5; change _ = some _ at q6; change _ = some _ at q7; change _ = some _ at q8; change _ = some _ at q9; change _ = some _ at q10; go_simp; try with_reducible rfl
              try simp only [Act.put, List.setIfInBounds_toArray, List.set_cons_zero, List.set_cons_succ, List.getElem_toArray, List.getElem_cons_succ, List.getElem_cons_zero]
              refine take_S (v := ?v33i) 33 rfl (by kernel_rfl) (by kernel_rfl) (by kernel_rfl) (by kernel_rfl) (fun _ _ _ h => h) hS4 (fun _ => trivial) rfl (fun w' hq => ?h33i) ?_
              case h33i => obtain ⟨q0, q1, q2, q3, q4, q5, q6, q7, q8, q9, q10, -⟩ := hq; change _ = some _ at q0; change _ = some _ at q1; change _ = some _ at q2; change _ = some _ at q3; change _ = some _ at q4; change _ = some _ at q5; change _ = some _ at q6; change _ = some _ at q7; change _ = some _ at q8; change _ = some _ at q9; change _ = some _ at q10; go_simp; try with_reducible rfl
              try simp only [Act.put, List.setIfInBounds_toArray, List.set_cons_zero, List.set_cons_succ, List.getElem_toArray, List.getElem_cons_succ, List.getElem_cons_zero]
              refine take_S (v := ?v34i) 34 rfl (by kernel_rfl) (by kernel_rfl) (by kernel_rfl) (by kernel_rfl) (fun _ _ _ h => h) hS4 (fun _ => trivial) rfl (fun w' hq => ?h34i) ?_
              case h34i => obtain ⟨q0, q1, q2, q3, q4, q5, q6, q7, q8, q9, q10, -⟩ := hq; change _ = some _ at q0; change _ = some _ at q1; change _ = some _ at q2; change _ = some _ at q3; change _ = some _ at q4; change _ = some _ at q5; change _ = some _ at q6; change _ = some _ at q7; change _ = some _ at q8; change _ = some _ at q9; change _ = some _ at q10; go_simp; try with_reducible rfl
              try simp only [Act.put, List.setIfInBounds_toArray, List.set_cons_zero, List.set_cons_succ, List.getElem_toArray, List.getElem_cons_succ, List.getElem_cons_zero]
              refine take_S (v := ?v35i) 35 rfl (by kernel_rfl) (by kernel_rfl) (by kernel_rfl) (by kernel_rfl) (fun _ _ _ h => h) hS4 (fun _ => trivial) rfl (fun w' hq => ?h35i) ?_
              case h35i => obtain ⟨q0, q1, q2, q3, q4, q5, q6, q7, q8, q9, q10, -⟩ := hq; change _ = some _ at q0; change _ = some _ at q1; change _ = some _ at q2; change _ = some _ at q3; change _ = some _ at q4; change _ = some _ at q5; change _ = some _ at q6; change _ = some _ at q7; change _ = some _ at q8; change _ = some _ at q9; change _ = some _ at q10; go_simp; try with_reducible rfl
              try simp only [Act.put, List.setIfInBounds_toArray, List.set_cons_zero, List.set_cons_succ, List.getElem_toArray, List.getElem_cons_succ, List.getElem_cons_zero]
              refine take_S (v := ?v36i) 36 rfl (by kernel_rfl) (by kernel_rfl) (by kernel_rfl) (by kernel_rfl) (fun _ _ _ h => h) hS4 (fun _ => trivial) rfl (fun w' hq => ?h36i) ?_
              case h36i => obtain ⟨q0, q1, q2, q3, q4, q5, q6, q7, q8, q9, q10, -⟩ := hq; change _ = some _ at q0; change _ = some _ at q1; change _ = some _ at q2; change _ = some _ at q3; change _ = some _ at q4; change _ = some _ at q5; change _ = some _ at q6; change _ = some _ at q7; change _ = some _ at q8; change _ = some _ at q9; change _ = some _ at q10; go_simp; try with_reducible rfl
              try simp only [Act.put, List.setIfInBounds_toArray, List.set_cons_zero, List.set_cons_succ, List.getElem_toArray, List.getElem_cons_succ, List.getElem_cons_zero]
              refine take_S (v := ?v37i) 37 rfl (by kernel_rfl) (by kernel_rfl) (by kernel_rfl) (by kernel_rfl) (fun _ _ _ h => h) hS4 (fun _ => trivial) rfl (fun w' hq => ?h37i) ?_
              case h37i => obtain ⟨q0, q1, q2, q3, q4, q5, q6, q7, q8, q9, q10, -⟩ := hq; change _ = some _ at q0; change _ = some _ at q1; change _ = some _ at q2; change _ = some _ at q3; change _ = some _ at q4; change _ = some _ at q5; change _ = some _ at q6; change _ = some _ at q7; change _ = some _ at q8; change _ = some _ at q9; change _ = some _ at q10; go_simp; try with_reducible rfl
              try simp only [Act.put, List.setIfInBounds_toArray, List.set_cons_zero, List.set_cons_succ, List.getElem_toArray, List.getElem_cons_succ, List.getElem_cons_zero]
              refine take_S (v := ?v38i) 38 rfl (by kernel_rfl) (by kernel_rfl) (by kernel_rfl) (by kernel_rfl) (fun _ _ _ h => h) hS4 (fun _ => trivial) rfl (fun w' hq => ?h38i) ?_
              case h38i => obtain ⟨q0, q1, q2, q3, q4, q5, q6, q7, q8, q9, q10, -⟩ := hq; change _ = some _ at q0; change _ = some _ at q1; change _ = some _ at q2; change _ = some _ at q3; change _ = some _ at q4; change _ = some _ at q5; change _ = some _ at q6; change _ = some _ at q7; change _ = some _ at q8; change _ = some _ at q9; change _ = some _ at q10; go_simp; try with_reducible rfl
              try simp only [Act.put, List.setIfInBounds_toArray, List.set_cons_zero, List.set_cons_succ, List.getElem_toArray, List.getElem_cons_succ, List.getElem_cons_zero]
              refine take_S (v := ?v39i) 39 rfl (by kernel_rfl) (by kernel_rfl) (by kernel_rfl) (by kernel_rfl) (fun _ _ _ h => h) hS4 (fun _ => trivial) rfl (fun w' hq => ?h39i) ?_
              case h39i => obtain ⟨q0, q1, q2, q3, q4, q5, q6, q7, q8, q9, q10, -⟩ := hq; change _ = some _ at q0; change _ = some _ at q1; change _ = some _ at q2; change _ = some _ at q3; change _ = some _ at q4; change _ = some _ at q5; change _ = some _ at q6; change _ = some _ at q7; change _ = some _ at q8; change _ = some _ at q9; change _ = some _ at q10; go_simp; try with_reducible rfl
              try simp only [Act.put, List.setIfInBounds_toArray, List.set_cons_zero, List.set_cons_succ, List.getElem_toArray, List.getElem_cons_succ, List.getElem_cons_zero]
              refine take_S (v := ?v40i) 40 rfl (by kernel_rfl) (by kernel_rfl) (by kernel_rfl) (by kernel_rfl) (fun _ _ _ h => h) hS4 (fun _ => trivial) rfl (fun w' hq => ?h40i) ?_
              case h40i => obtain ⟨q0, q1, q2, q3, q4, q5, q6, q7, q8, q9, q10, -⟩ := hq; change _ = some _ at q0; change _ = some _ at q1; change _ = some _ at q2; change _ = some _ at q3; change _ = some _ at q4; change _ = some _ at q5; change _ = some _ at q6; change _ = some _ at q7; change _ = some _ at q8; change _ = some _ at q9; change _ = some _ at q10; go_simp; try with_reducible rfl
              try simp only [Act.put, List.setIfInBounds_toArray, List.set_cons_zero, List.set_cons_succ, List.getElem_toArray, List.getElem_cons_succ, List.getElem_cons_zero]
              refine take_S (v := ?v41i) 41 rfl (by kernel_rfl) (by kernel_rfl) (by kernel_rfl) (by kernel_rfl) (fun _ _ _ h => h) hS4 (fun _ => trivial) rfl (fun w' hq => ?h41i) ?_
              case h41i => obtain ⟨q0, q1, q2, q3, q4, q5, q6, q7, q8, q9, q10, -⟩ := hq; change _ = some _ at q0; change _ = some _ at q1; change _ = some _ at q2; change _ = some _ at q3; change _ = some _ at q4; change _ = some _ at q5; change _ = some _ at q6; change _ = some _ at q7; change _ = some _ at q8; change _ = some _ at q9; change _ = some _ at q10; go_simp; try with_reducible rfl
              try simp only [Act.put, List.setIfInBounds_toArray, List.set_cons_zero, List.set_cons_succ, List.getElem_toArray, List.getElem_cons_succ, List.getElem_cons_zero]
              refine done_D (by kernel_rfl) ?_ _
              clear hS4
              have Hn := Lib.hid (show rTo l (i + 1) = (a, cm') from by
                rw [show rTo l (i + 1) = rStep l i (rTo l i) from rfl, Hr.out]
                exact Hst.out a (by rw [Hb1.out, Hb2.out, decide_eq_false hkk]; rfl))
              clear hkk dk
              go_wp2_with fail
              go_roundw
              case rel => exact ⟨i + 1, by omega, by go_num, by rw [Hn.out], by rw [Hn.out], HO4⟩
              case measure => simp [intOf]; omega
    · obtain rfl : i = l.length := by omega
      obtain ⟨Pa, hPa⟩ : ∃ x, l[a].2 = x := ⟨_, rfl⟩
      obtain ⟨g, q, d, cur, rfl, hc, hblk, hRg, f0, f1, f2, f3, f4, hre⟩ := hand_cells HO.out.r hatl
      rw [hPa] at f1 f2 f3 f4 hre
      have HPa := Lib.hid hPa
      have Hoka := Lib.hid (show PkOk Pa from by rw [← hPa]; exact Hok.out _ (List.getElem_mem hatl))
      have HRe := Lib.hid hre
      have hea : Pa.es.length ≤ 64 := Hoka.out.parts.1
      have ha4 : wr.cell? ⟨b, 4, none⟩ = _ := HO.out.r.kb.cell 4
      have hza := HO.out.r.kb.lt
      clear hPa hre hblk f0
      go_wp2_with fail
      have hbp := (Below.refl wr.heap.size wr).alloc (Nat.le_refl _) (.cells #[.int .u64 Pa.l, .int .u64 Pa.b, .int .u64 Pa.c, .slice q Pa.es.length d] 45)
      have hp64 : Pa.es.length ≤ 1152921504606846976 := by omega
      have hne : w.heap.size ≠ wr.heap.size := by have := HO.out.k.lt; omega
      have Hpb := Lib.hid (show w.heap.size ≤ wr.heap.size from Nat.le_of_lt HO.out.k.lt)
      have HO1 := Lib.hid (HO.out.below hbp)
      have HRe1 := Lib.hid (HRe.out.below hbp)
      have KP := Lib.hid (Blk.new wr 45 #[.int .u64 Pa.l, .int .u64 Pa.b, .int .u64 Pa.c, .slice q Pa.es.length d])
      clear hbp HO HRe f1 f2 f3 f4 ha4 hza
      generalize wr.alloc (.cells #[.int .u64 Pa.l, .int .u64 Pa.b, .int .u64 Pa.c, .slice q Pa.es.length d] 45) = V1 at *
      generalize wr.heap.size = pb at *
      obtain ⟨oo, hoo⟩ : ∃ x, Pa.op = x := ⟨_, rfl⟩
      have hwr : IntKind.u64.wrap (Pa.b + (Pa.es.length : Nat)) = oo := by rw [← hoo]; exact Hoka.out.wrap
      have Hwr := Lib.hid hwr
      clear hwr
      refine (rf_Op hp64).mono ?_
      rintro x V2 ⟨rfl, hb⟩
      rw [Hwr.out]
      have HO2 := Lib.hid (HO1.out.below hb)
      have HRe2 := Lib.hid (HRe1.out.below hb)
      have KP2 := Lib.hid (KP.out.below hb)
      clear hb HO1 HRe1 KP
      have Hbst := Lib.hid (show ∀ com, (if oo < cm then oo else cm) = com → refBest l = ⟨Pa.l, Pa.b, com, Pa.es⟩ from fun com h => by
        unfold refBest
        simp only [Hr.out, getD_at hatl, HPa.out, hoo]
        rw [h])
      clear hoo
      by_cases hcm : oo < cm
      · have dcm : decide (oo < cm) = true := by simpa using hcm
        have HB := Lib.hid (Hbst.out oo (if_pos hcm))
        obtain ⟨p0, p1, p2, p3, -, -, -, -, hzp⟩ := KP2.out.c4
        clear hcm Hbst
        go_wp2_with fail
        clear dcm p0 p1 p2 p3 hzp
        refine (rf_Op hp64).mono ?_
        rintro x V3 ⟨rfl, hb⟩
        rw [Hwr.out]
        have HO3 := Lib.hid (HO2.out.below hb)
        have HRe3 := Lib.hid (HRe2.out.below hb)
        have KP3 := Lib.hid (KP2.out.below hb)
        clear hb HO2 HRe2 KP2
        obtain ⟨p0, p1, p2, p3, g0, g1, g2, g3, hzp⟩ := KP3.out.c4
        obtain ⟨r0, r1, r2, r3, s0, s1, s2, s3, hzr⟩ := HO3.out.k.c4
        go_wp2_with fail
        clear p0 p1 p2 p3 g0 g1 g2 g3 hzp
        refine bodyPost_ret (v := .tuple #[.agg #[.int .u64 Pa.l, .int .u64 Pa.b, .int .u64 oo, .slice q Pa.es.length d], .bool true]) (by simp [results, Try.results22, go_sem, r0, r1, r2, r3, hzr]) rfl ?_
        have hE := (((((Ext.refl (fun j => w.heap.size ≤ j) V3).setCell (p := ⟨pb, 2, none⟩) (.inl Hpb.out) (.int .u64 oo)).setCell (p := ⟨w.heap.size, 0, none⟩) (.inl (Nat.le_refl _)) (.int .u64 Pa.l)).setCell (p := ⟨w.heap.size, 1, none⟩) (.inl (Nat.le_refl _)) (.int .u64 Pa.b)).setCell (p := ⟨w.heap.size, 2, none⟩) (.inl (Nat.le_refl _)) (.int .u64 oo)).setCell (p := ⟨w.heap.size, 3, none⟩) (.inl (Nat.le_refl _)) (.slice q Pa.es.length d)
        rw [HB.out]
        exact ⟨q, d, rfl, HRe3.out.keep (fun k hk hAk => hE.block k hk (fun e => by have := HAw.out k hAk; omega)) (fun _ h _ => h), Below.sets4 (HO3.out.bl.setCell (p := ⟨pb, 2, none⟩) Hpb.out (.int .u64 oo)) (Nat.le_refl _)⟩
      · have dcm : decide (oo < cm) = false := by simpa using hcm
        have HB := Lib.hid (Hbst.out cm (if_neg hcm))
        have HO3 := HO2
        have HRe3 := HRe2
        have KP3 := KP2
        clear hcm Hbst HO2 HRe2 KP2
        obtain ⟨p0, p1, p2, p3, g0, g1, g2, g3, hzp⟩ := KP3.out.c4
        obtain ⟨r0, r1, r2, r3, s0, s1, s2, s3, hzr⟩ := HO3.out.k.c4
        go_wp2_with fail
        clear p0 p1 p2 p3 g0 g1 g2 g3 hzp
        refine bodyPost_ret (v := .tuple #[.agg #[.int .u64 Pa.l, .int .u64 Pa.b, .int .u64 cm, .slice q Pa.es.length d], .bool true]) (by simp [results, Try.results22, go_sem, r0, r1, r2, r3, hzr]) rfl ?_
        have hE := (((((Ext.refl (fun j => w.heap.size ≤ j) V2).setCell (p := ⟨pb, 2, none⟩) (.inl Hpb.out) (.int .u64 cm)).setCell (p := ⟨w.heap.size, 0, none⟩) (.inl (Nat.le_refl _)) (.int .u64 Pa.l)).setCell (p := ⟨w.heap.size, 1, none⟩) (.inl (Nat.le_refl _)) (.int .u64 Pa.b)).setCell (p := ⟨w.heap.size, 2, none⟩) (.inl (Nat.le_refl _)) (.int .u64 cm)).setCell (p := ⟨w.heap.size, 3, none⟩) (.inl (Nat.le_refl _)) (.slice q Pa.es.length d)
        rw [HB.out]
        exact ⟨q, d, rfl, HRe3.out.keep (fun k hk hAk => hE.block k hk (fun e => by have := HAw.out k hAk; omega)) (fun _ h _ => h), Below.sets4 (HO3.out.bl.setCell (p := ⟨pb, 2, none⟩) Hpb.out (.int .u64 cm)) (Nat.le_refl _)⟩
end
end Go.Proofs.Ytgmekodfkhihiaa
