/-
  ChangePlays: the document's answers for packs, and what its change is in memory. (Printed by wip/gen_rf22.py.)
-/
import Derived.Test.YtgmekodfkhihiaaPlaysL22
import Derived.Test.YtgmekodfkhihiaaOrderS22
import Derived.Maps.AppendAt
namespace Go.Proofs.Ytgmekodfkhihiaa
open Go.RowKit Go.Maps
set_option linter.unusedSimpArgs false
set_option linter.unusedVariables false

theorem rf_Op {w : World} {a b c : Int} {p : Option Addr} {n k : Nat} (hn : n ≤ 1152921504606846976) :
    Calls Try.prog 44 #[.agg #[.int .u64 a, .int .u64 b, .int .u64 c, .slice p n k]] w fun x w' => x = .returned (.int .u64 (IntKind.u64.wrap (b + n))) ∧ Below w.heap.size w w' := by
  have q1 : IntKind.u64.wrap (n : Int) = n := IntWalk.u64_in _ (by omega)
  go_enter Try.func44, Try.ntmps44
  go_wp2_with fail
  go_ret
  exact ⟨rfl, (Below.refl _ w).alloc (Nat.le_refl _) _⟩

theorem rf_PSame {w : World} {S U : Nat → Prop} {a b c : Int} {p1 p2 : Option Addr} {n k1 k2 : Nat} {es : List Ent} (h : EntsRd w S (.slice p1 n k1) es) (k : EntsRd w U (.slice p2 n k2) es) (hn : es.length ≤ 1000) :
    Calls Try.prog 23 #[.agg #[.int .u64 a, .int .u64 b, .int .u64 c, .slice p1 n k1], .agg #[.int .u64 a, .int .u64 b, .int .u64 c, .slice p2 n k2]] w fun x w' => x = .returned (.bool true) ∧ Below w.heap.size w w' := by
  have hb1 := (Below.refl w.heap.size w).alloc (Nat.le_refl _) (.cells #[.int .u64 a, .int .u64 b, .int .u64 c, .slice p1 n k1] 45)
  have hb2 := hb1.alloc hb1.size (.cells #[.int .u64 a, .int .u64 b, .int .u64 c, .slice p2 n k2] 45)
  have H1 := Lib.hid (h.below hb2)
  have K1 := Lib.hid (k.below hb2)
  have HB := Lib.hid hb2
  clear h k hb1 hb2
  go_enter Try.func23, Try.ntmps23
  go_wp2_with fail
  refine (ref_All H1.out K1.out hn).mono ?_
  rintro x w2 ⟨rfl, hb⟩
  have HB2 := Lib.hid (HB.out.trans (hb.mono HB.out.size))
  clear hb
  go_wp2_with fail
  go_ret
  exact ⟨rfl, HB2.out⟩

theorem rf_Primary {w : World} {n v : Int} (h0 : 1 ≤ n) (h1 : n ≤ 4611686018427387904) (hv0 : 0 ≤ v) (hv1 : v < 18446744073709551616) :
    Calls Try.prog 26 #[.int .u64 v, .int .i64 n] w fun x w' => x = .returned (.int .i64 (v % n)) ∧ w = w' := by
  have d : decide (n < 1) = false := by simp; omega
  have hm0 := Int.emod_nonneg v (show n ≠ 0 by omega)
  have hm1 := Int.emod_lt_of_pos v (show 0 < n by omega)
  go_enter Try.func26, Try.ntmps26
  go_wp2_with fail
  go_ret
  exact ⟨rfl, rfl⟩
theorem rf_Primary_none {w : World} {n v : Int} (h0 : n < 1) : Calls Try.prog 26 #[.int .u64 v, .int .i64 n] w fun x w' => x = .returned (.int .i64 0) ∧ w = w' := by
  have d : decide (n < 1) = true := by simpa using h0
  go_enter Try.func26, Try.ntmps26
  go_wp2_with fail
  go_ret
  exact ⟨rfl, rfl⟩

theorem rf_Better {w : World} {a1 b1 c1 a2 b2 c2 : Int} {p1 p2 : Option Addr} {n1 k1 n2 k2 : Nat} {r : Bool} (h1 : n1 ≤ 1152921504606846976) (h2 : n2 ≤ 1152921504606846976) (hr : betterB a1 (IntKind.u64.wrap (b1 + n1)) a2 (IntKind.u64.wrap (b2 + n2)) = r) :
    Calls Try.prog 43 #[.agg #[.int .u64 a1, .int .u64 b1, .int .u64 c1, .slice p1 n1 k1], .agg #[.int .u64 a2, .int .u64 b2, .int .u64 c2, .slice p2 n2 k2]] w fun x w' => x = .returned (.bool r) ∧ Below w.heap.size w w' := by
  have hb1 := (Below.refl w.heap.size w).alloc (Nat.le_refl _) (.cells #[.int .u64 a1, .int .u64 b1, .int .u64 c1, .slice p1 n1 k1] 45)
  have hb2 := hb1.alloc hb1.size (.cells #[.int .u64 a2, .int .u64 b2, .int .u64 c2, .slice p2 n2 k2] 45)
  have k1' := (Blk.new w 45 #[.int .u64 a1, .int .u64 b1, .int .u64 c1, .slice p1 n1 k1]).alloc (.cells #[.int .u64 a2, .int .u64 b2, .int .u64 c2, .slice p2 n2 k2] 45)
  have k2' := Blk.new (w.alloc (.cells #[.int .u64 a1, .int .u64 b1, .int .u64 c1, .slice p1 n1 k1] 45)) 45 #[.int .u64 a2, .int .u64 b2, .int .u64 c2, .slice p2 n2 k2]
  rw [show (w.alloc (.cells #[.int .u64 a1, .int .u64 b1, .int .u64 c1, .slice p1 n1 k1] 45)).heap.size = w.heap.size + 1 from World.size_alloc _ _] at k2'
  have HB := Lib.hid hb2
  have K1 := Lib.hid k1'
  have K2 := Lib.hid k2'
  obtain ⟨m0, m1, m2, m3, -, -, -, -, hz1⟩ := k1'.c4
  obtain ⟨e0, e1, e2, e3, -, -, -, -, hz2⟩ := k2'.c4
  have Hr := Lib.hid hr
  clear hb1 hb2 k1' k2' hr
  by_cases hl : a1 = a2
  · subst hl
    go_enter Try.func43, Try.ntmps43
    go_wp2_with fail
    generalize (w.alloc (.cells #[.int .u64 a1, .int .u64 b1, .int .u64 c1, .slice p1 n1 k1] 45)).alloc (.cells #[.int .u64 a1, .int .u64 b2, .int .u64 c2, .slice p2 n2 k2] 45) = W2 at *
    have hS : Holds [(w.heap.size, 0, .int .u64 a1), (w.heap.size, 1, .int .u64 b1), (w.heap.size, 2, .int .u64 c1), (w.heap.size, 3, .slice p1 n1 k1), (w.heap.size + 1, 0, .int .u64 a1), (w.heap.size + 1, 1, .int .u64 b2), (w.heap.size + 1, 2, .int .u64 c2), (w.heap.size + 1, 3, .slice p2 n2 k2)] W2.drew := ⟨m0, m1, m2, m3, e0, e1, e2, e3, trivial⟩
    clear m0 m1 m2 m3 e0 e1 e2 e3
    have HB1 := Lib.hid HB.out.drew
    refine begin_D (T := Hold0) [] (by kernel_rfl) hS (fun _ => trivial) ?_
    refine take_S (v := ?v0b) 0 rfl (by kernel_rfl) (by kernel_rfl) (by kernel_rfl) (by kernel_rfl) (fun _ _ _ h => h) hS (fun _ => trivial) rfl (fun w' hq => ?h0b) ?_
    case h0b => obtain ⟨q0, q1, q2, q3, q4, q5, q6, q7, -⟩ := hq; change _ = some _ at q0; change _ = some _ at q1; change _ = some _ at q2; change _ = some _ at q3; change _ = some _ at q4; change _ = some _ at q5; change _ = some _ at q6; change _ = some _ at q7; go_simp; try with_reducible rfl
    try simp only [Act.put, List.setIfInBounds_toArray, List.set_cons_zero, List.set_cons_succ, List.getElem_toArray, List.getElem_cons_succ, List.getElem_cons_zero]
    refine take_S (v := ?v2b) 2 rfl (by kernel_rfl) (by kernel_rfl) (by kernel_rfl) (by kernel_rfl) (fun _ _ _ h => h) hS (fun _ => trivial) rfl (fun w' hq => ?h2b) ?_
    case h2b => obtain ⟨q0, q1, q2, q3, q4, q5, q6, q7, -⟩ := hq; change _ = some _ at q0; change _ = some _ at q1; change _ = some _ at q2; change _ = some _ at q3; change _ = some _ at q4; change _ = some _ at q5; change _ = some _ at q6; change _ = some _ at q7; go_simp; try with_reducible rfl
    try simp only [Act.put, List.setIfInBounds_toArray, List.set_cons_zero, List.set_cons_succ, List.getElem_toArray, List.getElem_cons_succ, List.getElem_cons_zero]
    refine one_D 1 rfl (by kernel_rfl) (fun KQ hK => ?_)
    go_simp
    refine (rf_Op h1).mono ?_
    rintro x W3 ⟨rfl, hb⟩
    have hS3 : Holds [(w.heap.size, 0, .int .u64 a1), (w.heap.size, 1, .int .u64 b1), (w.heap.size, 2, .int .u64 c1), (w.heap.size, 3, .slice p1 n1 k1), (w.heap.size + 1, 0, .int .u64 a1), (w.heap.size + 1, 1, .int .u64 b2), (w.heap.size + 1, 2, .int .u64 c2), (w.heap.size + 1, 3, .slice p2 n2 k2)] W3 := Holds.below hS hb
    have HB3 := Lib.hid (HB1.out.trans (hb.mono HB1.out.size))
    refine hK.out _ _ hS3 (fun _ => trivial) ?_
    clear hK hb hS HB1
    refine one_D 3 rfl (by kernel_rfl) (fun KQ hK => ?_)
    go_simp
    refine (rf_Op h2).mono ?_
    rintro x W4 ⟨rfl, hb⟩
    have hS4 : Holds [(w.heap.size, 0, .int .u64 a1), (w.heap.size, 1, .int .u64 b1), (w.heap.size, 2, .int .u64 c1), (w.heap.size, 3, .slice p1 n1 k1), (w.heap.size + 1, 0, .int .u64 a1), (w.heap.size + 1, 1, .int .u64 b2), (w.heap.size + 1, 2, .int .u64 c2), (w.heap.size + 1, 3, .slice p2 n2 k2)] W4 := Holds.below hS3 hb
    have HB4 := Lib.hid (HB3.out.trans (hb.mono HB3.out.size))
    refine hK.out _ _ hS4 (fun _ => trivial) ?_
    clear hK hb hS3 HB3
    refine take_S (v := ?v4d) 4 rfl (by kernel_rfl) (by kernel_rfl) (by kernel_rfl) (by kernel_rfl) (fun _ _ _ h => h) hS4 (fun _ => trivial) rfl (fun w' hq => ?h4d) ?_
    case h4d => go_simp; try with_reducible rfl
    try simp only [Act.put, List.setIfInBounds_toArray, List.set_cons_zero, List.set_cons_succ, List.getElem_toArray, List.getElem_cons_succ, List.getElem_cons_zero]
    refine take_S (v := ?v5d) 5 rfl (by kernel_rfl) (by kernel_rfl) (by kernel_rfl) (by kernel_rfl) (fun _ _ _ h => h) hS4 (fun _ => trivial) rfl (fun w' hq => ?h5d) ?_
    case h5d => go_simp; try with_reducible rfl
    try simp only [Act.put, List.setIfInBounds_toArray, List.set_cons_zero, List.set_cons_succ, List.getElem_toArray, List.getElem_cons_succ, List.getElem_cons_zero]
    refine done_D (by kernel_rfl) ?_ _
    clear hS4
    go_wp2_with fail
    go_ret
    exact ⟨by rw [← Hr.out]; unfold betterB; simp, HB4.out⟩
  · go_enter Try.func43, Try.ntmps43
    go_wp2_with fail
    go_ret
    exact ⟨by rw [← Hr.out]; unfold betterB; simp [hl], HB.out⟩

set_option maxHeartbeats 3200000 in
set_option maxRecDepth 100000 in
theorem rf_May {w : World} {S : Nat → Prop} {a b c : Int} {v : Value} {es : List Ent} (h : EntsRd w S v es) (hn : es.length ≤ 1152921504606846976) (hb0 : 0 ≤ b) :
    Calls Try.prog 41 #[.agg #[.int .u64 a, .int .u64 b, .int .u64 c, v]] w fun x w' => x = .returned (.bool (mayB a b c es)) ∧ Below w.heap.size w w' := by
  obtain ⟨cs, hr, -⟩ := id h
  obtain ⟨p, k, rfl⟩ := Rd.slice hr
  have hb1 := (Below.refl w.heap.size w).alloc (Nat.le_refl _) (.cells #[.int .u64 a, .int .u64 b, .int .u64 c, .slice p es.length k] 45)
  have k1 := Blk.new w 45 #[.int .u64 a, .int .u64 b, .int .u64 c, .slice p es.length k]
  have HX := Lib.hid hb1
  have HE := Lib.hid (h.below hb1)
  obtain ⟨m0, m1, m2, m3, -, -, -, -, hz1⟩ := k1.c4
  clear hb1 k1 h hr
  go_enter Try.func41, Try.ntmps41
  by_cases ca : 1099511627776 < a
  · have d1 : decide (1099511627776 < a) = true := by simpa using ca
    go_wp2_with fail
    generalize w.alloc (.cells #[.int .u64 a, .int .u64 b, .int .u64 c, .slice p es.length k] 45) = W1 at *
    have hS : Holds [(w.heap.size, 0, .int .u64 a), (w.heap.size, 1, .int .u64 b), (w.heap.size, 2, .int .u64 c), (w.heap.size, 3, .slice p es.length k)] W1.drew := ⟨m0, m1, m2, m3, trivial⟩
    have HX1 := Lib.hid HX.out.drew
    refine begin_D (T := Hold0) [] (by kernel_rfl) hS (fun _ => trivial) ?_
    refine take_S (v := ?v0e) 0 rfl (by kernel_rfl) (by kernel_rfl) (by kernel_rfl) (by kernel_rfl) (fun _ _ _ h => h) hS (fun _ => trivial) rfl (fun w' hq => ?h0e) ?_
    case h0e => obtain ⟨q0, q1, q2, q3, -⟩ := hq; change _ = some _ at q0; change _ = some _ at q1; change _ = some _ at q2; change _ = some _ at q3; go_simp; try with_reducible rfl
    try simp only [Act.put, List.setIfInBounds_toArray, List.set_cons_zero, List.set_cons_succ, List.getElem_toArray, List.getElem_cons_succ, List.getElem_cons_zero]
    refine take_S (v := ?v1e) 1 rfl (by kernel_rfl) (by kernel_rfl) (by kernel_rfl) (by kernel_rfl) (fun _ _ _ h => h) hS (fun _ => trivial) rfl (fun w' hq => ?h1e) ?_
    case h1e => obtain ⟨q0, q1, q2, q3, -⟩ := hq; change _ = some _ at q0; change _ = some _ at q1; change _ = some _ at q2; change _ = some _ at q3; go_simp; try with_reducible rfl
    try simp only [Act.put, List.setIfInBounds_toArray, List.set_cons_zero, List.set_cons_succ, List.getElem_toArray, List.getElem_cons_succ, List.getElem_cons_zero]
    refine take_S (v := ?v2e) 2 rfl (by kernel_rfl) (by kernel_rfl) (by kernel_rfl) (by kernel_rfl) (fun _ _ _ h => h) hS (fun _ => trivial) rfl (fun w' hq => ?h2e) ?_
    case h2e => obtain ⟨q0, q1, q2, q3, -⟩ := hq; change _ = some _ at q0; change _ = some _ at q1; change _ = some _ at q2; change _ = some _ at q3; go_simp; try with_reducible rfl
    try simp only [Act.put, List.setIfInBounds_toArray, List.set_cons_zero, List.set_cons_succ, List.getElem_toArray, List.getElem_cons_succ, List.getElem_cons_zero]
    refine take_S (v := ?v3e) 3 rfl (by kernel_rfl) (by kernel_rfl) (by kernel_rfl) (by kernel_rfl) (fun _ _ _ h => h) hS (fun _ => trivial) rfl (fun w' hq => ?h3e) ?_
    case h3e => obtain ⟨q0, q1, q2, q3, -⟩ := hq; change _ = some _ at q0; change _ = some _ at q1; change _ = some _ at q2; change _ = some _ at q3; go_simp; try with_reducible rfl
    try simp only [Act.put, List.setIfInBounds_toArray, List.set_cons_zero, List.set_cons_succ, List.getElem_toArray, List.getElem_cons_succ, List.getElem_cons_zero]
    refine take_no 4 rfl (by kernel_rfl) (by kernel_rfl) (by kernel_rfl) (by kernel_rfl) (fun _ _ _ h => h) hS (fun _ => trivial) rfl ?_
    try simp only [Act.put, List.setIfInBounds_toArray, List.set_cons_zero, List.set_cons_succ, List.getElem_toArray, List.getElem_cons_succ, List.getElem_cons_zero]
    refine take_no 5 rfl (by kernel_rfl) (by kernel_rfl) (by kernel_rfl) (by kernel_rfl) (fun _ _ _ h => h) hS (fun _ => trivial) rfl ?_
    try simp only [Act.put, List.setIfInBounds_toArray, List.set_cons_zero, List.set_cons_succ, List.getElem_toArray, List.getElem_cons_succ, List.getElem_cons_zero]
    refine take_no 6 rfl (by kernel_rfl) (by kernel_rfl) (by kernel_rfl) (by kernel_rfl) (fun _ _ _ h => h) hS (fun _ => trivial) rfl ?_
    try simp only [Act.put, List.setIfInBounds_toArray, List.set_cons_zero, List.set_cons_succ, List.getElem_toArray, List.getElem_cons_succ, List.getElem_cons_zero]
    refine take_S (v := ?v7e) 7 rfl (by kernel_rfl) (by kernel_rfl) (by kernel_rfl) (by kernel_rfl) (fun _ _ _ h => h) hS (fun _ => trivial) rfl (fun w' hq => ?h7e) ?_
    case h7e => obtain ⟨q0, q1, q2, q3, -⟩ := hq; change _ = some _ at q0; change _ = some _ at q1; change _ = some _ at q2; change _ = some _ at q3; go_simp; try with_reducible rfl
    try simp only [Act.put, List.setIfInBounds_toArray, List.set_cons_zero, List.set_cons_succ, List.getElem_toArray, List.getElem_cons_succ, List.getElem_cons_zero]
    refine take_S (v := ?v8e) 8 rfl (by kernel_rfl) (by kernel_rfl) (by kernel_rfl) (by kernel_rfl) (fun _ _ _ h => h) hS (fun _ => trivial) rfl (fun w' hq => ?h8e) ?_
    case h8e => obtain ⟨q0, q1, q2, q3, -⟩ := hq; change _ = some _ at q0; change _ = some _ at q1; change _ = some _ at q2; change _ = some _ at q3; go_simp; try with_reducible rfl
    try simp only [Act.put, List.setIfInBounds_toArray, List.set_cons_zero, List.set_cons_succ, List.getElem_toArray, List.getElem_cons_succ, List.getElem_cons_zero]
    refine take_no 9 rfl (by kernel_rfl) (by kernel_rfl) (by kernel_rfl) (by kernel_rfl) (fun _ _ _ h => h) hS (fun _ => trivial) rfl ?_
    try simp only [Act.put, List.setIfInBounds_toArray, List.set_cons_zero, List.set_cons_succ, List.getElem_toArray, List.getElem_cons_succ, List.getElem_cons_zero]
    refine take_no 10 rfl (by kernel_rfl) (by kernel_rfl) (by kernel_rfl) (by kernel_rfl) (fun _ _ _ h => h) hS (fun _ => trivial) rfl ?_
    try simp only [Act.put, List.setIfInBounds_toArray, List.set_cons_zero, List.set_cons_succ, List.getElem_toArray, List.getElem_cons_succ, List.getElem_cons_zero]
    refine take_no 11 rfl (by kernel_rfl) (by kernel_rfl) (by kernel_rfl) (by kernel_rfl) (fun _ _ _ h => h) hS (fun _ => trivial) rfl ?_
    try simp only [Act.put, List.setIfInBounds_toArray, List.set_cons_zero, List.set_cons_succ, List.getElem_toArray, List.getElem_cons_succ, List.getElem_cons_zero]
    refine take_no 12 rfl (by kernel_rfl) (by kernel_rfl) (by kernel_rfl) (by kernel_rfl) (fun _ _ _ h => h) hS (fun _ => trivial) rfl ?_
    try simp only [Act.put, List.setIfInBounds_toArray, List.set_cons_zero, List.set_cons_succ, List.getElem_toArray, List.getElem_cons_succ, List.getElem_cons_zero]
    refine take_S (v := ?v13e) 13 rfl (by kernel_rfl) (by kernel_rfl) (by kernel_rfl) (by kernel_rfl) (fun _ _ _ h => h) hS (fun _ => trivial) rfl (fun w' hq => ?h13e) ?_
    case h13e => obtain ⟨q0, q1, q2, q3, -⟩ := hq; change _ = some _ at q0; change _ = some _ at q1; change _ = some _ at q2; change _ = some _ at q3; go_simp; try with_reducible rfl
    try simp only [Act.put, List.setIfInBounds_toArray, List.set_cons_zero, List.set_cons_succ, List.getElem_toArray, List.getElem_cons_succ, List.getElem_cons_zero]
    refine take_S (v := ?v14e) 14 rfl (by kernel_rfl) (by kernel_rfl) (by kernel_rfl) (by kernel_rfl) (fun _ _ _ h => h) hS (fun _ => trivial) rfl (fun w' hq => ?h14e) ?_
    case h14e => obtain ⟨q0, q1, q2, q3, -⟩ := hq; change _ = some _ at q0; change _ = some _ at q1; change _ = some _ at q2; change _ = some _ at q3; go_simp; try with_reducible rfl
    try simp only [Act.put, List.setIfInBounds_toArray, List.set_cons_zero, List.set_cons_succ, List.getElem_toArray, List.getElem_cons_succ, List.getElem_cons_zero]
    refine take_no 15 rfl (by kernel_rfl) (by kernel_rfl) (by kernel_rfl) (by kernel_rfl) (fun _ _ _ h => h) hS (fun _ => trivial) rfl ?_
    try simp only [Act.put, List.setIfInBounds_toArray, List.set_cons_zero, List.set_cons_succ, List.getElem_toArray, List.getElem_cons_succ, List.getElem_cons_zero]
    refine take_no 16 rfl (by kernel_rfl) (by kernel_rfl) (by kernel_rfl) (by kernel_rfl) (fun _ _ _ h => h) hS (fun _ => trivial) rfl ?_
    try simp only [Act.put, List.setIfInBounds_toArray, List.set_cons_zero, List.set_cons_succ, List.getElem_toArray, List.getElem_cons_succ, List.getElem_cons_zero]
    refine take_no 17 rfl (by kernel_rfl) (by kernel_rfl) (by kernel_rfl) (by kernel_rfl) (fun _ _ _ h => h) hS (fun _ => trivial) rfl ?_
    try simp only [Act.put, List.setIfInBounds_toArray, List.set_cons_zero, List.set_cons_succ, List.getElem_toArray, List.getElem_cons_succ, List.getElem_cons_zero]
    refine take_no 18 rfl (by kernel_rfl) (by kernel_rfl) (by kernel_rfl) (by kernel_rfl) (fun _ _ _ h => h) hS (fun _ => trivial) rfl ?_
    try simp only [Act.put, List.setIfInBounds_toArray, List.set_cons_zero, List.set_cons_succ, List.getElem_toArray, List.getElem_cons_succ, List.getElem_cons_zero]
    refine take_no 19 rfl (by kernel_rfl) (by kernel_rfl) (by kernel_rfl) (by kernel_rfl) (fun _ _ _ h => h) hS (fun _ => trivial) rfl ?_
    try simp only [Act.put, List.setIfInBounds_toArray, List.set_cons_zero, List.set_cons_succ, List.getElem_toArray, List.getElem_cons_succ, List.getElem_cons_zero]
    refine take_S (v := ?v20e) 20 rfl (by kernel_rfl) (by kernel_rfl) (by kernel_rfl) (by kernel_rfl) (fun _ _ _ h => h) hS (fun _ => trivial) rfl (fun w' hq => ?h20e) ?_
    case h20e => obtain ⟨q0, q1, q2, q3, -⟩ := hq; change _ = some _ at q0; change _ = some _ at q1; change _ = some _ at q2; change _ = some _ at q3; go_simp; try with_reducible rfl
    try simp only [Act.put, List.setIfInBounds_toArray, List.set_cons_zero, List.set_cons_succ, List.getElem_toArray, List.getElem_cons_succ, List.getElem_cons_zero]
    refine take_S (v := ?v21e) 21 rfl (by kernel_rfl) (by kernel_rfl) (by kernel_rfl) (by kernel_rfl) (fun _ _ _ h => h) hS (fun _ => trivial) rfl (fun w' hq => ?h21e) ?_
    case h21e => obtain ⟨q0, q1, q2, q3, -⟩ := hq; change _ = some _ at q0; change _ = some _ at q1; change _ = some _ at q2; change _ = some _ at q3; go_simp; try with_reducible rfl
    try simp only [Act.put, List.setIfInBounds_toArray, List.set_cons_zero, List.set_cons_succ, List.getElem_toArray, List.getElem_cons_succ, List.getElem_cons_zero]
    refine take_no 22 rfl (by kernel_rfl) (by kernel_rfl) (by kernel_rfl) (by kernel_rfl) (fun _ _ _ h => h) hS (fun _ => trivial) rfl ?_
    try simp only [Act.put, List.setIfInBounds_toArray, List.set_cons_zero, List.set_cons_succ, List.getElem_toArray, List.getElem_cons_succ, List.getElem_cons_zero]
    refine take_no 23 rfl (by kernel_rfl) (by kernel_rfl) (by kernel_rfl) (by kernel_rfl) (fun _ _ _ h => h) hS (fun _ => trivial) rfl ?_
    try simp only [Act.put, List.setIfInBounds_toArray, List.set_cons_zero, List.set_cons_succ, List.getElem_toArray, List.getElem_cons_succ, List.getElem_cons_zero]
    refine take_no 24 rfl (by kernel_rfl) (by kernel_rfl) (by kernel_rfl) (by kernel_rfl) (fun _ _ _ h => h) hS (fun _ => trivial) rfl ?_
    try simp only [Act.put, List.setIfInBounds_toArray, List.set_cons_zero, List.set_cons_succ, List.getElem_toArray, List.getElem_cons_succ, List.getElem_cons_zero]
    refine take_no 25 rfl (by kernel_rfl) (by kernel_rfl) (by kernel_rfl) (by kernel_rfl) (fun _ _ _ h => h) hS (fun _ => trivial) rfl ?_
    try simp only [Act.put, List.setIfInBounds_toArray, List.set_cons_zero, List.set_cons_succ, List.getElem_toArray, List.getElem_cons_succ, List.getElem_cons_zero]
    refine take_no 26 rfl (by kernel_rfl) (by kernel_rfl) (by kernel_rfl) (by kernel_rfl) (fun _ _ _ h => h) hS (fun _ => trivial) rfl ?_
    try simp only [Act.put, List.setIfInBounds_toArray, List.set_cons_zero, List.set_cons_succ, List.getElem_toArray, List.getElem_cons_succ, List.getElem_cons_zero]
    refine take_S (v := ?v27e) 27 rfl (by kernel_rfl) (by kernel_rfl) (by kernel_rfl) (by kernel_rfl) (fun _ _ _ h => h) hS (fun _ => trivial) rfl (fun w' hq => ?h27e) ?_
    case h27e => obtain ⟨q0, q1, q2, q3, -⟩ := hq; change _ = some _ at q0; change _ = some _ at q1; change _ = some _ at q2; change _ = some _ at q3; go_simp; try with_reducible rfl
    try simp only [Act.put, List.setIfInBounds_toArray, List.set_cons_zero, List.set_cons_succ, List.getElem_toArray, List.getElem_cons_succ, List.getElem_cons_zero]
    refine done_D (by kernel_rfl) ?_ _
    clear hS
    go_wp2_with fail
    go_ret
    exact ⟨by rw [show mayB a b c es = false from by unfold mayB; simp; omega]; rfl, HX1.out⟩
  · have d1 : decide (1099511627776 < a) = false := by simpa using ca
    by_cases cb : 1099511627776 < b
    · have d2 : decide (1099511627776 < b) = true := by simpa using cb
      go_wp2_with fail
      generalize w.alloc (.cells #[.int .u64 a, .int .u64 b, .int .u64 c, .slice p es.length k] 45) = W1 at *
      have hS : Holds [(w.heap.size, 0, .int .u64 a), (w.heap.size, 1, .int .u64 b), (w.heap.size, 2, .int .u64 c), (w.heap.size, 3, .slice p es.length k)] W1.drew := ⟨m0, m1, m2, m3, trivial⟩
      have HX1 := Lib.hid HX.out.drew
      refine begin_D (T := Hold0) [] (by kernel_rfl) hS (fun _ => trivial) ?_
      refine take_S (v := ?v0f) 0 rfl (by kernel_rfl) (by kernel_rfl) (by kernel_rfl) (by kernel_rfl) (fun _ _ _ h => h) hS (fun _ => trivial) rfl (fun w' hq => ?h0f) ?_
      case h0f => obtain ⟨q0, q1, q2, q3, -⟩ := hq; change _ = some _ at q0; change _ = some _ at q1; change _ = some _ at q2; change _ = some _ at q3; go_simp; try with_reducible rfl
      try simp only [Act.put, List.setIfInBounds_toArray, List.set_cons_zero, List.set_cons_succ, List.getElem_toArray, List.getElem_cons_succ, List.getElem_cons_zero]
      refine take_S (v := ?v1f) 1 rfl (by kernel_rfl) (by kernel_rfl) (by kernel_rfl) (by kernel_rfl) (fun _ _ _ h => h) hS (fun _ => trivial) rfl (fun w' hq => ?h1f) ?_
      case h1f => obtain ⟨q0, q1, q2, q3, -⟩ := hq; change _ = some _ at q0; change _ = some _ at q1; change _ = some _ at q2; change _ = some _ at q3; go_simp; try with_reducible rfl
      try simp only [Act.put, List.setIfInBounds_toArray, List.set_cons_zero, List.set_cons_succ, List.getElem_toArray, List.getElem_cons_succ, List.getElem_cons_zero]
      refine take_S (v := ?v2f) 2 rfl (by kernel_rfl) (by kernel_rfl) (by kernel_rfl) (by kernel_rfl) (fun _ _ _ h => h) hS (fun _ => trivial) rfl (fun w' hq => ?h2f) ?_
      case h2f => obtain ⟨q0, q1, q2, q3, -⟩ := hq; change _ = some _ at q0; change _ = some _ at q1; change _ = some _ at q2; change _ = some _ at q3; go_simp; try with_reducible rfl
      try simp only [Act.put, List.setIfInBounds_toArray, List.set_cons_zero, List.set_cons_succ, List.getElem_toArray, List.getElem_cons_succ, List.getElem_cons_zero]
      refine take_S (v := ?v3f) 3 rfl (by kernel_rfl) (by kernel_rfl) (by kernel_rfl) (by kernel_rfl) (fun _ _ _ h => h) hS (fun _ => trivial) rfl (fun w' hq => ?h3f) ?_
      case h3f => obtain ⟨q0, q1, q2, q3, -⟩ := hq; change _ = some _ at q0; change _ = some _ at q1; change _ = some _ at q2; change _ = some _ at q3; go_simp; try with_reducible rfl
      try simp only [Act.put, List.setIfInBounds_toArray, List.set_cons_zero, List.set_cons_succ, List.getElem_toArray, List.getElem_cons_succ, List.getElem_cons_zero]
      refine take_S (v := ?v4f) 4 rfl (by kernel_rfl) (by kernel_rfl) (by kernel_rfl) (by kernel_rfl) (fun _ _ _ h => h) hS (fun _ => trivial) rfl (fun w' hq => ?h4f) ?_
      case h4f => obtain ⟨q0, q1, q2, q3, -⟩ := hq; change _ = some _ at q0; change _ = some _ at q1; change _ = some _ at q2; change _ = some _ at q3; go_simp; try with_reducible rfl
      try simp only [Act.put, List.setIfInBounds_toArray, List.set_cons_zero, List.set_cons_succ, List.getElem_toArray, List.getElem_cons_succ, List.getElem_cons_zero]
      refine take_S (v := ?v5f) 5 rfl (by kernel_rfl) (by kernel_rfl) (by kernel_rfl) (by kernel_rfl) (fun _ _ _ h => h) hS (fun _ => trivial) rfl (fun w' hq => ?h5f) ?_
      case h5f => obtain ⟨q0, q1, q2, q3, -⟩ := hq; change _ = some _ at q0; change _ = some _ at q1; change _ = some _ at q2; change _ = some _ at q3; go_simp; try with_reducible rfl
      try simp only [Act.put, List.setIfInBounds_toArray, List.set_cons_zero, List.set_cons_succ, List.getElem_toArray, List.getElem_cons_succ, List.getElem_cons_zero]
      refine take_S (v := ?v6f) 6 rfl (by kernel_rfl) (by kernel_rfl) (by kernel_rfl) (by kernel_rfl) (fun _ _ _ h => h) hS (fun _ => trivial) rfl (fun w' hq => ?h6f) ?_
      case h6f => obtain ⟨q0, q1, q2, q3, -⟩ := hq; change _ = some _ at q0; change _ = some _ at q1; change _ = some _ at q2; change _ = some _ at q3; go_simp; try with_reducible rfl
      try simp only [Act.put, List.setIfInBounds_toArray, List.set_cons_zero, List.set_cons_succ, List.getElem_toArray, List.getElem_cons_succ, List.getElem_cons_zero]
      refine take_S (v := ?v7f) 7 rfl (by kernel_rfl) (by kernel_rfl) (by kernel_rfl) (by kernel_rfl) (fun _ _ _ h => h) hS (fun _ => trivial) rfl (fun w' hq => ?h7f) ?_
      case h7f => obtain ⟨q0, q1, q2, q3, -⟩ := hq; change _ = some _ at q0; change _ = some _ at q1; change _ = some _ at q2; change _ = some _ at q3; go_simp; try with_reducible rfl
      try simp only [Act.put, List.setIfInBounds_toArray, List.set_cons_zero, List.set_cons_succ, List.getElem_toArray, List.getElem_cons_succ, List.getElem_cons_zero]
      refine take_S (v := ?v8f) 8 rfl (by kernel_rfl) (by kernel_rfl) (by kernel_rfl) (by kernel_rfl) (fun _ _ _ h => h) hS (fun _ => trivial) rfl (fun w' hq => ?h8f) ?_
      case h8f => obtain ⟨q0, q1, q2, q3, -⟩ := hq; change _ = some _ at q0; change _ = some _ at q1; change _ = some _ at q2; change _ = some _ at q3; go_simp; try with_reducible rfl
      try simp only [Act.put, List.setIfInBounds_toArray, List.set_cons_zero, List.set_cons_succ, List.getElem_toArray, List.getElem_cons_succ, List.getElem_cons_zero]
      refine take_no 9 rfl (by kernel_rfl) (by kernel_rfl) (by kernel_rfl) (by kernel_rfl) (fun _ _ _ h => h) hS (fun _ => trivial) rfl ?_
      try simp only [Act.put, List.setIfInBounds_toArray, List.set_cons_zero, List.set_cons_succ, List.getElem_toArray, List.getElem_cons_succ, List.getElem_cons_zero]
      refine take_no 10 rfl (by kernel_rfl) (by kernel_rfl) (by kernel_rfl) (by kernel_rfl) (fun _ _ _ h => h) hS (fun _ => trivial) rfl ?_
      try simp only [Act.put, List.setIfInBounds_toArray, List.set_cons_zero, List.set_cons_succ, List.getElem_toArray, List.getElem_cons_succ, List.getElem_cons_zero]
      refine take_no 11 rfl (by kernel_rfl) (by kernel_rfl) (by kernel_rfl) (by kernel_rfl) (fun _ _ _ h => h) hS (fun _ => trivial) rfl ?_
      try simp only [Act.put, List.setIfInBounds_toArray, List.set_cons_zero, List.set_cons_succ, List.getElem_toArray, List.getElem_cons_succ, List.getElem_cons_zero]
      refine take_no 12 rfl (by kernel_rfl) (by kernel_rfl) (by kernel_rfl) (by kernel_rfl) (fun _ _ _ h => h) hS (fun _ => trivial) rfl ?_
      try simp only [Act.put, List.setIfInBounds_toArray, List.set_cons_zero, List.set_cons_succ, List.getElem_toArray, List.getElem_cons_succ, List.getElem_cons_zero]
      refine take_S (v := ?v13f) 13 rfl (by kernel_rfl) (by kernel_rfl) (by kernel_rfl) (by kernel_rfl) (fun _ _ _ h => h) hS (fun _ => trivial) rfl (fun w' hq => ?h13f) ?_
      case h13f => obtain ⟨q0, q1, q2, q3, -⟩ := hq; change _ = some _ at q0; change _ = some _ at q1; change _ = some _ at q2; change _ = some _ at q3; go_simp; try with_reducible rfl
      try simp only [Act.put, List.setIfInBounds_toArray, List.set_cons_zero, List.set_cons_succ, List.getElem_toArray, List.getElem_cons_succ, List.getElem_cons_zero]
      refine take_S (v := ?v14f) 14 rfl (by kernel_rfl) (by kernel_rfl) (by kernel_rfl) (by kernel_rfl) (fun _ _ _ h => h) hS (fun _ => trivial) rfl (fun w' hq => ?h14f) ?_
      case h14f => obtain ⟨q0, q1, q2, q3, -⟩ := hq; change _ = some _ at q0; change _ = some _ at q1; change _ = some _ at q2; change _ = some _ at q3; go_simp; try with_reducible rfl
      try simp only [Act.put, List.setIfInBounds_toArray, List.set_cons_zero, List.set_cons_succ, List.getElem_toArray, List.getElem_cons_succ, List.getElem_cons_zero]
      refine take_no 15 rfl (by kernel_rfl) (by kernel_rfl) (by kernel_rfl) (by kernel_rfl) (fun _ _ _ h => h) hS (fun _ => trivial) rfl ?_
      try simp only [Act.put, List.setIfInBounds_toArray, List.set_cons_zero, List.set_cons_succ, List.getElem_toArray, List.getElem_cons_succ, List.getElem_cons_zero]
      refine take_no 16 rfl (by kernel_rfl) (by kernel_rfl) (by kernel_rfl) (by kernel_rfl) (fun _ _ _ h => h) hS (fun _ => trivial) rfl ?_
      try simp only [Act.put, List.setIfInBounds_toArray, List.set_cons_zero, List.set_cons_succ, List.getElem_toArray, List.getElem_cons_succ, List.getElem_cons_zero]
      refine take_no 17 rfl (by kernel_rfl) (by kernel_rfl) (by kernel_rfl) (by kernel_rfl) (fun _ _ _ h => h) hS (fun _ => trivial) rfl ?_
      try simp only [Act.put, List.setIfInBounds_toArray, List.set_cons_zero, List.set_cons_succ, List.getElem_toArray, List.getElem_cons_succ, List.getElem_cons_zero]
      refine take_no 18 rfl (by kernel_rfl) (by kernel_rfl) (by kernel_rfl) (by kernel_rfl) (fun _ _ _ h => h) hS (fun _ => trivial) rfl ?_
      try simp only [Act.put, List.setIfInBounds_toArray, List.set_cons_zero, List.set_cons_succ, List.getElem_toArray, List.getElem_cons_succ, List.getElem_cons_zero]
      refine take_no 19 rfl (by kernel_rfl) (by kernel_rfl) (by kernel_rfl) (by kernel_rfl) (fun _ _ _ h => h) hS (fun _ => trivial) rfl ?_
      try simp only [Act.put, List.setIfInBounds_toArray, List.set_cons_zero, List.set_cons_succ, List.getElem_toArray, List.getElem_cons_succ, List.getElem_cons_zero]
      refine take_S (v := ?v20f) 20 rfl (by kernel_rfl) (by kernel_rfl) (by kernel_rfl) (by kernel_rfl) (fun _ _ _ h => h) hS (fun _ => trivial) rfl (fun w' hq => ?h20f) ?_
      case h20f => obtain ⟨q0, q1, q2, q3, -⟩ := hq; change _ = some _ at q0; change _ = some _ at q1; change _ = some _ at q2; change _ = some _ at q3; go_simp; try with_reducible rfl
      try simp only [Act.put, List.setIfInBounds_toArray, List.set_cons_zero, List.set_cons_succ, List.getElem_toArray, List.getElem_cons_succ, List.getElem_cons_zero]
      refine take_S (v := ?v21f) 21 rfl (by kernel_rfl) (by kernel_rfl) (by kernel_rfl) (by kernel_rfl) (fun _ _ _ h => h) hS (fun _ => trivial) rfl (fun w' hq => ?h21f) ?_
      case h21f => obtain ⟨q0, q1, q2, q3, -⟩ := hq; change _ = some _ at q0; change _ = some _ at q1; change _ = some _ at q2; change _ = some _ at q3; go_simp; try with_reducible rfl
      try simp only [Act.put, List.setIfInBounds_toArray, List.set_cons_zero, List.set_cons_succ, List.getElem_toArray, List.getElem_cons_succ, List.getElem_cons_zero]
      refine take_no 22 rfl (by kernel_rfl) (by kernel_rfl) (by kernel_rfl) (by kernel_rfl) (fun _ _ _ h => h) hS (fun _ => trivial) rfl ?_
      try simp only [Act.put, List.setIfInBounds_toArray, List.set_cons_zero, List.set_cons_succ, List.getElem_toArray, List.getElem_cons_succ, List.getElem_cons_zero]
      refine take_no 23 rfl (by kernel_rfl) (by kernel_rfl) (by kernel_rfl) (by kernel_rfl) (fun _ _ _ h => h) hS (fun _ => trivial) rfl ?_
      try simp only [Act.put, List.setIfInBounds_toArray, List.set_cons_zero, List.set_cons_succ, List.getElem_toArray, List.getElem_cons_succ, List.getElem_cons_zero]
      refine take_no 24 rfl (by kernel_rfl) (by kernel_rfl) (by kernel_rfl) (by kernel_rfl) (fun _ _ _ h => h) hS (fun _ => trivial) rfl ?_
      try simp only [Act.put, List.setIfInBounds_toArray, List.set_cons_zero, List.set_cons_succ, List.getElem_toArray, List.getElem_cons_succ, List.getElem_cons_zero]
      refine take_no 25 rfl (by kernel_rfl) (by kernel_rfl) (by kernel_rfl) (by kernel_rfl) (fun _ _ _ h => h) hS (fun _ => trivial) rfl ?_
      try simp only [Act.put, List.setIfInBounds_toArray, List.set_cons_zero, List.set_cons_succ, List.getElem_toArray, List.getElem_cons_succ, List.getElem_cons_zero]
      refine take_no 26 rfl (by kernel_rfl) (by kernel_rfl) (by kernel_rfl) (by kernel_rfl) (fun _ _ _ h => h) hS (fun _ => trivial) rfl ?_
      try simp only [Act.put, List.setIfInBounds_toArray, List.set_cons_zero, List.set_cons_succ, List.getElem_toArray, List.getElem_cons_succ, List.getElem_cons_zero]
      refine take_S (v := ?v27f) 27 rfl (by kernel_rfl) (by kernel_rfl) (by kernel_rfl) (by kernel_rfl) (fun _ _ _ h => h) hS (fun _ => trivial) rfl (fun w' hq => ?h27f) ?_
      case h27f => obtain ⟨q0, q1, q2, q3, -⟩ := hq; change _ = some _ at q0; change _ = some _ at q1; change _ = some _ at q2; change _ = some _ at q3; go_simp; try with_reducible rfl
      try simp only [Act.put, List.setIfInBounds_toArray, List.set_cons_zero, List.set_cons_succ, List.getElem_toArray, List.getElem_cons_succ, List.getElem_cons_zero]
      refine done_D (by kernel_rfl) ?_ _
      clear hS
      go_wp2_with fail
      go_ret
      exact ⟨by rw [show mayB a b c es = false from by unfold mayB; simp; omega]; rfl, HX1.out⟩
    · have d2 : decide (1099511627776 < b) = false := by simpa using cb
      by_cases cl : 64 < es.length
      · have d3 : decide ((64 : Int) < (es.length : Int)) = true := by simp; omega
        go_wp2_with fail
        generalize w.alloc (.cells #[.int .u64 a, .int .u64 b, .int .u64 c, .slice p es.length k] 45) = W1 at *
        have hS : Holds [(w.heap.size, 0, .int .u64 a), (w.heap.size, 1, .int .u64 b), (w.heap.size, 2, .int .u64 c), (w.heap.size, 3, .slice p es.length k)] W1.drew := ⟨m0, m1, m2, m3, trivial⟩
        have HX1 := Lib.hid HX.out.drew
        refine begin_D (T := Hold0) [] (by kernel_rfl) hS (fun _ => trivial) ?_
        refine take_S (v := ?v0g) 0 rfl (by kernel_rfl) (by kernel_rfl) (by kernel_rfl) (by kernel_rfl) (fun _ _ _ h => h) hS (fun _ => trivial) rfl (fun w' hq => ?h0g) ?_
        case h0g => obtain ⟨q0, q1, q2, q3, -⟩ := hq; change _ = some _ at q0; change _ = some _ at q1; change _ = some _ at q2; change _ = some _ at q3; go_simp; try with_reducible rfl
        try simp only [Act.put, List.setIfInBounds_toArray, List.set_cons_zero, List.set_cons_succ, List.getElem_toArray, List.getElem_cons_succ, List.getElem_cons_zero]
        refine take_S (v := ?v1g) 1 rfl (by kernel_rfl) (by kernel_rfl) (by kernel_rfl) (by kernel_rfl) (fun _ _ _ h => h) hS (fun _ => trivial) rfl (fun w' hq => ?h1g) ?_
        case h1g => obtain ⟨q0, q1, q2, q3, -⟩ := hq; change _ = some _ at q0; change _ = some _ at q1; change _ = some _ at q2; change _ = some _ at q3; go_simp; try with_reducible rfl
        try simp only [Act.put, List.setIfInBounds_toArray, List.set_cons_zero, List.set_cons_succ, List.getElem_toArray, List.getElem_cons_succ, List.getElem_cons_zero]
        refine take_S (v := ?v2g) 2 rfl (by kernel_rfl) (by kernel_rfl) (by kernel_rfl) (by kernel_rfl) (fun _ _ _ h => h) hS (fun _ => trivial) rfl (fun w' hq => ?h2g) ?_
        case h2g => obtain ⟨q0, q1, q2, q3, -⟩ := hq; change _ = some _ at q0; change _ = some _ at q1; change _ = some _ at q2; change _ = some _ at q3; go_simp; try with_reducible rfl
        try simp only [Act.put, List.setIfInBounds_toArray, List.set_cons_zero, List.set_cons_succ, List.getElem_toArray, List.getElem_cons_succ, List.getElem_cons_zero]
        refine take_S (v := ?v3g) 3 rfl (by kernel_rfl) (by kernel_rfl) (by kernel_rfl) (by kernel_rfl) (fun _ _ _ h => h) hS (fun _ => trivial) rfl (fun w' hq => ?h3g) ?_
        case h3g => obtain ⟨q0, q1, q2, q3, -⟩ := hq; change _ = some _ at q0; change _ = some _ at q1; change _ = some _ at q2; change _ = some _ at q3; go_simp; try with_reducible rfl
        try simp only [Act.put, List.setIfInBounds_toArray, List.set_cons_zero, List.set_cons_succ, List.getElem_toArray, List.getElem_cons_succ, List.getElem_cons_zero]
        refine take_S (v := ?v4g) 4 rfl (by kernel_rfl) (by kernel_rfl) (by kernel_rfl) (by kernel_rfl) (fun _ _ _ h => h) hS (fun _ => trivial) rfl (fun w' hq => ?h4g) ?_
        case h4g => obtain ⟨q0, q1, q2, q3, -⟩ := hq; change _ = some _ at q0; change _ = some _ at q1; change _ = some _ at q2; change _ = some _ at q3; go_simp; try with_reducible rfl
        try simp only [Act.put, List.setIfInBounds_toArray, List.set_cons_zero, List.set_cons_succ, List.getElem_toArray, List.getElem_cons_succ, List.getElem_cons_zero]
        refine take_S (v := ?v5g) 5 rfl (by kernel_rfl) (by kernel_rfl) (by kernel_rfl) (by kernel_rfl) (fun _ _ _ h => h) hS (fun _ => trivial) rfl (fun w' hq => ?h5g) ?_
        case h5g => obtain ⟨q0, q1, q2, q3, -⟩ := hq; change _ = some _ at q0; change _ = some _ at q1; change _ = some _ at q2; change _ = some _ at q3; go_simp; try with_reducible rfl
        try simp only [Act.put, List.setIfInBounds_toArray, List.set_cons_zero, List.set_cons_succ, List.getElem_toArray, List.getElem_cons_succ, List.getElem_cons_zero]
        refine take_S (v := ?v6g) 6 rfl (by kernel_rfl) (by kernel_rfl) (by kernel_rfl) (by kernel_rfl) (fun _ _ _ h => h) hS (fun _ => trivial) rfl (fun w' hq => ?h6g) ?_
        case h6g => obtain ⟨q0, q1, q2, q3, -⟩ := hq; change _ = some _ at q0; change _ = some _ at q1; change _ = some _ at q2; change _ = some _ at q3; go_simp; try with_reducible rfl
        try simp only [Act.put, List.setIfInBounds_toArray, List.set_cons_zero, List.set_cons_succ, List.getElem_toArray, List.getElem_cons_succ, List.getElem_cons_zero]
        refine take_S (v := ?v7g) 7 rfl (by kernel_rfl) (by kernel_rfl) (by kernel_rfl) (by kernel_rfl) (fun _ _ _ h => h) hS (fun _ => trivial) rfl (fun w' hq => ?h7g) ?_
        case h7g => obtain ⟨q0, q1, q2, q3, -⟩ := hq; change _ = some _ at q0; change _ = some _ at q1; change _ = some _ at q2; change _ = some _ at q3; go_simp; try with_reducible rfl
        try simp only [Act.put, List.setIfInBounds_toArray, List.set_cons_zero, List.set_cons_succ, List.getElem_toArray, List.getElem_cons_succ, List.getElem_cons_zero]
        refine take_S (v := ?v8g) 8 rfl (by kernel_rfl) (by kernel_rfl) (by kernel_rfl) (by kernel_rfl) (fun _ _ _ h => h) hS (fun _ => trivial) rfl (fun w' hq => ?h8g) ?_
        case h8g => obtain ⟨q0, q1, q2, q3, -⟩ := hq; change _ = some _ at q0; change _ = some _ at q1; change _ = some _ at q2; change _ = some _ at q3; go_simp; try with_reducible rfl
        try simp only [Act.put, List.setIfInBounds_toArray, List.set_cons_zero, List.set_cons_succ, List.getElem_toArray, List.getElem_cons_succ, List.getElem_cons_zero]
        refine take_S (v := ?v9g) 9 rfl (by kernel_rfl) (by kernel_rfl) (by kernel_rfl) (by kernel_rfl) (fun _ _ _ h => h) hS (fun _ => trivial) rfl (fun w' hq => ?h9g) ?_
        case h9g => obtain ⟨q0, q1, q2, q3, -⟩ := hq; change _ = some _ at q0; change _ = some _ at q1; change _ = some _ at q2; change _ = some _ at q3; go_simp; try with_reducible rfl
        try simp only [Act.put, List.setIfInBounds_toArray, List.set_cons_zero, List.set_cons_succ, List.getElem_toArray, List.getElem_cons_succ, List.getElem_cons_zero]
        refine take_S (v := ?v10g) 10 rfl (by kernel_rfl) (by kernel_rfl) (by kernel_rfl) (by kernel_rfl) (fun _ _ _ h => h) hS (fun _ => trivial) rfl (fun w' hq => ?h10g) ?_
        case h10g => obtain ⟨q0, q1, q2, q3, -⟩ := hq; change _ = some _ at q0; change _ = some _ at q1; change _ = some _ at q2; change _ = some _ at q3; go_simp; try with_reducible rfl
        try simp only [Act.put, List.setIfInBounds_toArray, List.set_cons_zero, List.set_cons_succ, List.getElem_toArray, List.getElem_cons_succ, List.getElem_cons_zero]
        refine take_S (v := ?v11g) 11 rfl (by kernel_rfl) (by kernel_rfl) (by kernel_rfl) (by kernel_rfl) (fun _ _ _ h => h) hS (fun _ => trivial) rfl (fun w' hq => ?h11g) ?_
        case h11g => obtain ⟨q0, q1, q2, q3, -⟩ := hq; change _ = some _ at q0; change _ = some _ at q1; change _ = some _ at q2; change _ = some _ at q3; go_simp; try with_reducible rfl
        try simp only [Act.put, List.setIfInBounds_toArray, List.set_cons_zero, List.set_cons_succ, List.getElem_toArray, List.getElem_cons_succ, List.getElem_cons_zero]
        refine take_S (v := ?v12g) 12 rfl (by kernel_rfl) (by kernel_rfl) (by kernel_rfl) (by kernel_rfl) (fun _ _ _ h => h) hS (fun _ => trivial) rfl (fun w' hq => ?h12g) ?_
        case h12g => obtain ⟨q0, q1, q2, q3, -⟩ := hq; change _ = some _ at q0; change _ = some _ at q1; change _ = some _ at q2; change _ = some _ at q3; go_simp; try with_reducible rfl
        try simp only [Act.put, List.setIfInBounds_toArray, List.set_cons_zero, List.set_cons_succ, List.getElem_toArray, List.getElem_cons_succ, List.getElem_cons_zero]
        refine take_S (v := ?v13g) 13 rfl (by kernel_rfl) (by kernel_rfl) (by kernel_rfl) (by kernel_rfl) (fun _ _ _ h => h) hS (fun _ => trivial) rfl (fun w' hq => ?h13g) ?_
        case h13g => obtain ⟨q0, q1, q2, q3, -⟩ := hq; change _ = some _ at q0; change _ = some _ at q1; change _ = some _ at q2; change _ = some _ at q3; go_simp; try with_reducible rfl
        try simp only [Act.put, List.setIfInBounds_toArray, List.set_cons_zero, List.set_cons_succ, List.getElem_toArray, List.getElem_cons_succ, List.getElem_cons_zero]
        refine take_S (v := ?v14g) 14 rfl (by kernel_rfl) (by kernel_rfl) (by kernel_rfl) (by kernel_rfl) (fun _ _ _ h => h) hS (fun _ => trivial) rfl (fun w' hq => ?h14g) ?_
        case h14g => obtain ⟨q0, q1, q2, q3, -⟩ := hq; change _ = some _ at q0; change _ = some _ at q1; change _ = some _ at q2; change _ = some _ at q3; go_simp; try with_reducible rfl
        try simp only [Act.put, List.setIfInBounds_toArray, List.set_cons_zero, List.set_cons_succ, List.getElem_toArray, List.getElem_cons_succ, List.getElem_cons_zero]
        refine take_no 15 rfl (by kernel_rfl) (by kernel_rfl) (by kernel_rfl) (by kernel_rfl) (fun _ _ _ h => h) hS (fun _ => trivial) rfl ?_
        try simp only [Act.put, List.setIfInBounds_toArray, List.set_cons_zero, List.set_cons_succ, List.getElem_toArray, List.getElem_cons_succ, List.getElem_cons_zero]
        refine take_no 16 rfl (by kernel_rfl) (by kernel_rfl) (by kernel_rfl) (by kernel_rfl) (fun _ _ _ h => h) hS (fun _ => trivial) rfl ?_
        try simp only [Act.put, List.setIfInBounds_toArray, List.set_cons_zero, List.set_cons_succ, List.getElem_toArray, List.getElem_cons_succ, List.getElem_cons_zero]
        refine take_no 17 rfl (by kernel_rfl) (by kernel_rfl) (by kernel_rfl) (by kernel_rfl) (fun _ _ _ h => h) hS (fun _ => trivial) rfl ?_
        try simp only [Act.put, List.setIfInBounds_toArray, List.set_cons_zero, List.set_cons_succ, List.getElem_toArray, List.getElem_cons_succ, List.getElem_cons_zero]
        refine take_no 18 rfl (by kernel_rfl) (by kernel_rfl) (by kernel_rfl) (by kernel_rfl) (fun _ _ _ h => h) hS (fun _ => trivial) rfl ?_
        try simp only [Act.put, List.setIfInBounds_toArray, List.set_cons_zero, List.set_cons_succ, List.getElem_toArray, List.getElem_cons_succ, List.getElem_cons_zero]
        refine take_no 19 rfl (by kernel_rfl) (by kernel_rfl) (by kernel_rfl) (by kernel_rfl) (fun _ _ _ h => h) hS (fun _ => trivial) rfl ?_
        try simp only [Act.put, List.setIfInBounds_toArray, List.set_cons_zero, List.set_cons_succ, List.getElem_toArray, List.getElem_cons_succ, List.getElem_cons_zero]
        refine take_S (v := ?v20g) 20 rfl (by kernel_rfl) (by kernel_rfl) (by kernel_rfl) (by kernel_rfl) (fun _ _ _ h => h) hS (fun _ => trivial) rfl (fun w' hq => ?h20g) ?_
        case h20g => obtain ⟨q0, q1, q2, q3, -⟩ := hq; change _ = some _ at q0; change _ = some _ at q1; change _ = some _ at q2; change _ = some _ at q3; go_simp; try with_reducible rfl
        try simp only [Act.put, List.setIfInBounds_toArray, List.set_cons_zero, List.set_cons_succ, List.getElem_toArray, List.getElem_cons_succ, List.getElem_cons_zero]
        refine take_S (v := ?v21g) 21 rfl (by kernel_rfl) (by kernel_rfl) (by kernel_rfl) (by kernel_rfl) (fun _ _ _ h => h) hS (fun _ => trivial) rfl (fun w' hq => ?h21g) ?_
        case h21g => obtain ⟨q0, q1, q2, q3, -⟩ := hq; change _ = some _ at q0; change _ = some _ at q1; change _ = some _ at q2; change _ = some _ at q3; go_simp; try with_reducible rfl
        try simp only [Act.put, List.setIfInBounds_toArray, List.set_cons_zero, List.set_cons_succ, List.getElem_toArray, List.getElem_cons_succ, List.getElem_cons_zero]
        refine take_no 22 rfl (by kernel_rfl) (by kernel_rfl) (by kernel_rfl) (by kernel_rfl) (fun _ _ _ h => h) hS (fun _ => trivial) rfl ?_
        try simp only [Act.put, List.setIfInBounds_toArray, List.set_cons_zero, List.set_cons_succ, List.getElem_toArray, List.getElem_cons_succ, List.getElem_cons_zero]
        refine take_no 23 rfl (by kernel_rfl) (by kernel_rfl) (by kernel_rfl) (by kernel_rfl) (fun _ _ _ h => h) hS (fun _ => trivial) rfl ?_
        try simp only [Act.put, List.setIfInBounds_toArray, List.set_cons_zero, List.set_cons_succ, List.getElem_toArray, List.getElem_cons_succ, List.getElem_cons_zero]
        refine take_no 24 rfl (by kernel_rfl) (by kernel_rfl) (by kernel_rfl) (by kernel_rfl) (fun _ _ _ h => h) hS (fun _ => trivial) rfl ?_
        try simp only [Act.put, List.setIfInBounds_toArray, List.set_cons_zero, List.set_cons_succ, List.getElem_toArray, List.getElem_cons_succ, List.getElem_cons_zero]
        refine take_no 25 rfl (by kernel_rfl) (by kernel_rfl) (by kernel_rfl) (by kernel_rfl) (fun _ _ _ h => h) hS (fun _ => trivial) rfl ?_
        try simp only [Act.put, List.setIfInBounds_toArray, List.set_cons_zero, List.set_cons_succ, List.getElem_toArray, List.getElem_cons_succ, List.getElem_cons_zero]
        refine take_no 26 rfl (by kernel_rfl) (by kernel_rfl) (by kernel_rfl) (by kernel_rfl) (fun _ _ _ h => h) hS (fun _ => trivial) rfl ?_
        try simp only [Act.put, List.setIfInBounds_toArray, List.set_cons_zero, List.set_cons_succ, List.getElem_toArray, List.getElem_cons_succ, List.getElem_cons_zero]
        refine take_S (v := ?v27g) 27 rfl (by kernel_rfl) (by kernel_rfl) (by kernel_rfl) (by kernel_rfl) (fun _ _ _ h => h) hS (fun _ => trivial) rfl (fun w' hq => ?h27g) ?_
        case h27g => obtain ⟨q0, q1, q2, q3, -⟩ := hq; change _ = some _ at q0; change _ = some _ at q1; change _ = some _ at q2; change _ = some _ at q3; go_simp; try with_reducible rfl
        try simp only [Act.put, List.setIfInBounds_toArray, List.set_cons_zero, List.set_cons_succ, List.getElem_toArray, List.getElem_cons_succ, List.getElem_cons_zero]
        refine done_D (by kernel_rfl) ?_ _
        clear hS
        go_wp2_with fail
        go_ret
        exact ⟨by rw [show mayB a b c es = false from by unfold mayB; simp; omega]; rfl, HX1.out⟩
      · have d3 : decide ((64 : Int) < (es.length : Int)) = false := by simp; omega
        by_cases cc : c < b
        · have d4 : decide (c < b) = true := by simpa using cc
          go_wp2_with fail
          generalize w.alloc (.cells #[.int .u64 a, .int .u64 b, .int .u64 c, .slice p es.length k] 45) = W1 at *
          have hS : Holds [(w.heap.size, 0, .int .u64 a), (w.heap.size, 1, .int .u64 b), (w.heap.size, 2, .int .u64 c), (w.heap.size, 3, .slice p es.length k)] W1.drew := ⟨m0, m1, m2, m3, trivial⟩
          have HX1 := Lib.hid HX.out.drew
          refine begin_D (T := Hold0) [] (by kernel_rfl) hS (fun _ => trivial) ?_
          refine take_S (v := ?v0i) 0 rfl (by kernel_rfl) (by kernel_rfl) (by kernel_rfl) (by kernel_rfl) (fun _ _ _ h => h) hS (fun _ => trivial) rfl (fun w' hq => ?h0i) ?_
          case h0i => obtain ⟨q0, q1, q2, q3, -⟩ := hq; change _ = some _ at q0; change _ = some _ at q1; change _ = some _ at q2; change _ = some _ at q3; go_simp; try with_reducible rfl
          try simp only [Act.put, List.setIfInBounds_toArray, List.set_cons_zero, List.set_cons_succ, List.getElem_toArray, List.getElem_cons_succ, List.getElem_cons_zero]
          refine take_S (v := ?v1i) 1 rfl (by kernel_rfl) (by kernel_rfl) (by kernel_rfl) (by kernel_rfl) (fun _ _ _ h => h) hS (fun _ => trivial) rfl (fun w' hq => ?h1i) ?_
          case h1i => obtain ⟨q0, q1, q2, q3, -⟩ := hq; change _ = some _ at q0; change _ = some _ at q1; change _ = some _ at q2; change _ = some _ at q3; go_simp; try with_reducible rfl
          try simp only [Act.put, List.setIfInBounds_toArray, List.set_cons_zero, List.set_cons_succ, List.getElem_toArray, List.getElem_cons_succ, List.getElem_cons_zero]
          refine take_S (v := ?v2i) 2 rfl (by kernel_rfl) (by kernel_rfl) (by kernel_rfl) (by kernel_rfl) (fun _ _ _ h => h) hS (fun _ => trivial) rfl (fun w' hq => ?h2i) ?_
          case h2i => obtain ⟨q0, q1, q2, q3, -⟩ := hq; change _ = some _ at q0; change _ = some _ at q1; change _ = some _ at q2; change _ = some _ at q3; go_simp; try with_reducible rfl
          try simp only [Act.put, List.setIfInBounds_toArray, List.set_cons_zero, List.set_cons_succ, List.getElem_toArray, List.getElem_cons_succ, List.getElem_cons_zero]
          refine take_S (v := ?v3i) 3 rfl (by kernel_rfl) (by kernel_rfl) (by kernel_rfl) (by kernel_rfl) (fun _ _ _ h => h) hS (fun _ => trivial) rfl (fun w' hq => ?h3i) ?_
          case h3i => obtain ⟨q0, q1, q2, q3, -⟩ := hq; change _ = some _ at q0; change _ = some _ at q1; change _ = some _ at q2; change _ = some _ at q3; go_simp; try with_reducible rfl
          try simp only [Act.put, List.setIfInBounds_toArray, List.set_cons_zero, List.set_cons_succ, List.getElem_toArray, List.getElem_cons_succ, List.getElem_cons_zero]
          refine take_S (v := ?v4i) 4 rfl (by kernel_rfl) (by kernel_rfl) (by kernel_rfl) (by kernel_rfl) (fun _ _ _ h => h) hS (fun _ => trivial) rfl (fun w' hq => ?h4i) ?_
          case h4i => obtain ⟨q0, q1, q2, q3, -⟩ := hq; change _ = some _ at q0; change _ = some _ at q1; change _ = some _ at q2; change _ = some _ at q3; go_simp; try with_reducible rfl
          try simp only [Act.put, List.setIfInBounds_toArray, List.set_cons_zero, List.set_cons_succ, List.getElem_toArray, List.getElem_cons_succ, List.getElem_cons_zero]
          refine take_S (v := ?v5i) 5 rfl (by kernel_rfl) (by kernel_rfl) (by kernel_rfl) (by kernel_rfl) (fun _ _ _ h => h) hS (fun _ => trivial) rfl (fun w' hq => ?h5i) ?_
          case h5i => obtain ⟨q0, q1, q2, q3, -⟩ := hq; change _ = some _ at q0; change _ = some _ at q1; change _ = some _ at q2; change _ = some _ at q3; go_simp; try with_reducible rfl
          try simp only [Act.put, List.setIfInBounds_toArray, List.set_cons_zero, List.set_cons_succ, List.getElem_toArray, List.getElem_cons_succ, List.getElem_cons_zero]
          refine take_S (v := ?v6i) 6 rfl (by kernel_rfl) (by kernel_rfl) (by kernel_rfl) (by kernel_rfl) (fun _ _ _ h => h) hS (fun _ => trivial) rfl (fun w' hq => ?h6i) ?_
          case h6i => obtain ⟨q0, q1, q2, q3, -⟩ := hq; change _ = some _ at q0; change _ = some _ at q1; change _ = some _ at q2; change _ = some _ at q3; go_simp; try with_reducible rfl
          try simp only [Act.put, List.setIfInBounds_toArray, List.set_cons_zero, List.set_cons_succ, List.getElem_toArray, List.getElem_cons_succ, List.getElem_cons_zero]
          refine take_S (v := ?v7i) 7 rfl (by kernel_rfl) (by kernel_rfl) (by kernel_rfl) (by kernel_rfl) (fun _ _ _ h => h) hS (fun _ => trivial) rfl (fun w' hq => ?h7i) ?_
          case h7i => obtain ⟨q0, q1, q2, q3, -⟩ := hq; change _ = some _ at q0; change _ = some _ at q1; change _ = some _ at q2; change _ = some _ at q3; go_simp; try with_reducible rfl
          try simp only [Act.put, List.setIfInBounds_toArray, List.set_cons_zero, List.set_cons_succ, List.getElem_toArray, List.getElem_cons_succ, List.getElem_cons_zero]
          refine take_S (v := ?v8i) 8 rfl (by kernel_rfl) (by kernel_rfl) (by kernel_rfl) (by kernel_rfl) (fun _ _ _ h => h) hS (fun _ => trivial) rfl (fun w' hq => ?h8i) ?_
          case h8i => obtain ⟨q0, q1, q2, q3, -⟩ := hq; change _ = some _ at q0; change _ = some _ at q1; change _ = some _ at q2; change _ = some _ at q3; go_simp; try with_reducible rfl
          try simp only [Act.put, List.setIfInBounds_toArray, List.set_cons_zero, List.set_cons_succ, List.getElem_toArray, List.getElem_cons_succ, List.getElem_cons_zero]
          refine take_S (v := ?v9i) 9 rfl (by kernel_rfl) (by kernel_rfl) (by kernel_rfl) (by kernel_rfl) (fun _ _ _ h => h) hS (fun _ => trivial) rfl (fun w' hq => ?h9i) ?_
          case h9i => obtain ⟨q0, q1, q2, q3, -⟩ := hq; change _ = some _ at q0; change _ = some _ at q1; change _ = some _ at q2; change _ = some _ at q3; go_simp; try with_reducible rfl
          try simp only [Act.put, List.setIfInBounds_toArray, List.set_cons_zero, List.set_cons_succ, List.getElem_toArray, List.getElem_cons_succ, List.getElem_cons_zero]
          refine take_S (v := ?v10i) 10 rfl (by kernel_rfl) (by kernel_rfl) (by kernel_rfl) (by kernel_rfl) (fun _ _ _ h => h) hS (fun _ => trivial) rfl (fun w' hq => ?h10i) ?_
          case h10i => obtain ⟨q0, q1, q2, q3, -⟩ := hq; change _ = some _ at q0; change _ = some _ at q1; change _ = some _ at q2; change _ = some _ at q3; go_simp; try with_reducible rfl
          try simp only [Act.put, List.setIfInBounds_toArray, List.set_cons_zero, List.set_cons_succ, List.getElem_toArray, List.getElem_cons_succ, List.getElem_cons_zero]
          refine take_S (v := ?v11i) 11 rfl (by kernel_rfl) (by kernel_rfl) (by kernel_rfl) (by kernel_rfl) (fun _ _ _ h => h) hS (fun _ => trivial) rfl (fun w' hq => ?h11i) ?_
          case h11i => obtain ⟨q0, q1, q2, q3, -⟩ := hq; change _ = some _ at q0; change _ = some _ at q1; change _ = some _ at q2; change _ = some _ at q3; go_simp; try with_reducible rfl
          try simp only [Act.put, List.setIfInBounds_toArray, List.set_cons_zero, List.set_cons_succ, List.getElem_toArray, List.getElem_cons_succ, List.getElem_cons_zero]
          refine take_S (v := ?v12i) 12 rfl (by kernel_rfl) (by kernel_rfl) (by kernel_rfl) (by kernel_rfl) (fun _ _ _ h => h) hS (fun _ => trivial) rfl (fun w' hq => ?h12i) ?_
          case h12i => obtain ⟨q0, q1, q2, q3, -⟩ := hq; change _ = some _ at q0; change _ = some _ at q1; change _ = some _ at q2; change _ = some _ at q3; go_simp; try with_reducible rfl
          try simp only [Act.put, List.setIfInBounds_toArray, List.set_cons_zero, List.set_cons_succ, List.getElem_toArray, List.getElem_cons_succ, List.getElem_cons_zero]
          refine take_S (v := ?v13i) 13 rfl (by kernel_rfl) (by kernel_rfl) (by kernel_rfl) (by kernel_rfl) (fun _ _ _ h => h) hS (fun _ => trivial) rfl (fun w' hq => ?h13i) ?_
          case h13i => obtain ⟨q0, q1, q2, q3, -⟩ := hq; change _ = some _ at q0; change _ = some _ at q1; change _ = some _ at q2; change _ = some _ at q3; go_simp; try with_reducible rfl
          try simp only [Act.put, List.setIfInBounds_toArray, List.set_cons_zero, List.set_cons_succ, List.getElem_toArray, List.getElem_cons_succ, List.getElem_cons_zero]
          refine take_S (v := ?v14i) 14 rfl (by kernel_rfl) (by kernel_rfl) (by kernel_rfl) (by kernel_rfl) (fun _ _ _ h => h) hS (fun _ => trivial) rfl (fun w' hq => ?h14i) ?_
          case h14i => obtain ⟨q0, q1, q2, q3, -⟩ := hq; change _ = some _ at q0; change _ = some _ at q1; change _ = some _ at q2; change _ = some _ at q3; go_simp; try with_reducible rfl
          try simp only [Act.put, List.setIfInBounds_toArray, List.set_cons_zero, List.set_cons_succ, List.getElem_toArray, List.getElem_cons_succ, List.getElem_cons_zero]
          refine take_S (v := ?v15i) 15 rfl (by kernel_rfl) (by kernel_rfl) (by kernel_rfl) (by kernel_rfl) (fun _ _ _ h => h) hS (fun _ => trivial) rfl (fun w' hq => ?h15i) ?_
          case h15i => obtain ⟨q0, q1, q2, q3, -⟩ := hq; change _ = some _ at q0; change _ = some _ at q1; change _ = some _ at q2; change _ = some _ at q3; go_simp; try with_reducible rfl
          try simp only [Act.put, List.setIfInBounds_toArray, List.set_cons_zero, List.set_cons_succ, List.getElem_toArray, List.getElem_cons_succ, List.getElem_cons_zero]
          refine take_S (v := ?v16i) 16 rfl (by kernel_rfl) (by kernel_rfl) (by kernel_rfl) (by kernel_rfl) (fun _ _ _ h => h) hS (fun _ => trivial) rfl (fun w' hq => ?h16i) ?_
          case h16i => obtain ⟨q0, q1, q2, q3, -⟩ := hq; change _ = some _ at q0; change _ = some _ at q1; change _ = some _ at q2; change _ = some _ at q3; go_simp; try with_reducible rfl
          try simp only [Act.put, List.setIfInBounds_toArray, List.set_cons_zero, List.set_cons_succ, List.getElem_toArray, List.getElem_cons_succ, List.getElem_cons_zero]
          refine take_S (v := ?v17i) 17 rfl (by kernel_rfl) (by kernel_rfl) (by kernel_rfl) (by kernel_rfl) (fun _ _ _ h => h) hS (fun _ => trivial) rfl (fun w' hq => ?h17i) ?_
          case h17i => obtain ⟨q0, q1, q2, q3, -⟩ := hq; change _ = some _ at q0; change _ = some _ at q1; change _ = some _ at q2; change _ = some _ at q3; go_simp; try with_reducible rfl
          try simp only [Act.put, List.setIfInBounds_toArray, List.set_cons_zero, List.set_cons_succ, List.getElem_toArray, List.getElem_cons_succ, List.getElem_cons_zero]
          refine take_S (v := ?v18i) 18 rfl (by kernel_rfl) (by kernel_rfl) (by kernel_rfl) (by kernel_rfl) (fun _ _ _ h => h) hS (fun _ => trivial) rfl (fun w' hq => ?h18i) ?_
          case h18i => obtain ⟨q0, q1, q2, q3, -⟩ := hq; change _ = some _ at q0; change _ = some _ at q1; change _ = some _ at q2; change _ = some _ at q3; go_simp; try with_reducible rfl
          try simp only [Act.put, List.setIfInBounds_toArray, List.set_cons_zero, List.set_cons_succ, List.getElem_toArray, List.getElem_cons_succ, List.getElem_cons_zero]
          refine take_S (v := ?v19i) 19 rfl (by kernel_rfl) (by kernel_rfl) (by kernel_rfl) (by kernel_rfl) (fun _ _ _ h => h) hS (fun _ => trivial) rfl (fun w' hq => ?h19i) ?_
          case h19i => obtain ⟨q0, q1, q2, q3, -⟩ := hq; change _ = some _ at q0; change _ = some _ at q1; change _ = some _ at q2; change _ = some _ at q3; go_simp; try with_reducible rfl
          try simp only [Act.put, List.setIfInBounds_toArray, List.set_cons_zero, List.set_cons_succ, List.getElem_toArray, List.getElem_cons_succ, List.getElem_cons_zero]
          refine take_S (v := ?v20i) 20 rfl (by kernel_rfl) (by kernel_rfl) (by kernel_rfl) (by kernel_rfl) (fun _ _ _ h => h) hS (fun _ => trivial) rfl (fun w' hq => ?h20i) ?_
          case h20i => obtain ⟨q0, q1, q2, q3, -⟩ := hq; change _ = some _ at q0; change _ = some _ at q1; change _ = some _ at q2; change _ = some _ at q3; go_simp; try with_reducible rfl
          try simp only [Act.put, List.setIfInBounds_toArray, List.set_cons_zero, List.set_cons_succ, List.getElem_toArray, List.getElem_cons_succ, List.getElem_cons_zero]
          refine take_S (v := ?v21i) 21 rfl (by kernel_rfl) (by kernel_rfl) (by kernel_rfl) (by kernel_rfl) (fun _ _ _ h => h) hS (fun _ => trivial) rfl (fun w' hq => ?h21i) ?_
          case h21i => obtain ⟨q0, q1, q2, q3, -⟩ := hq; change _ = some _ at q0; change _ = some _ at q1; change _ = some _ at q2; change _ = some _ at q3; go_simp; try with_reducible rfl
          try simp only [Act.put, List.setIfInBounds_toArray, List.set_cons_zero, List.set_cons_succ, List.getElem_toArray, List.getElem_cons_succ, List.getElem_cons_zero]
          refine take_no 22 rfl (by kernel_rfl) (by kernel_rfl) (by kernel_rfl) (by kernel_rfl) (fun _ _ _ h => h) hS (fun _ => trivial) rfl ?_
          try simp only [Act.put, List.setIfInBounds_toArray, List.set_cons_zero, List.set_cons_succ, List.getElem_toArray, List.getElem_cons_succ, List.getElem_cons_zero]
          refine take_no 23 rfl (by kernel_rfl) (by kernel_rfl) (by kernel_rfl) (by kernel_rfl) (fun _ _ _ h => h) hS (fun _ => trivial) rfl ?_
          try simp only [Act.put, List.setIfInBounds_toArray, List.set_cons_zero, List.set_cons_succ, List.getElem_toArray, List.getElem_cons_succ, List.getElem_cons_zero]
          refine take_no 24 rfl (by kernel_rfl) (by kernel_rfl) (by kernel_rfl) (by kernel_rfl) (fun _ _ _ h => h) hS (fun _ => trivial) rfl ?_
          try simp only [Act.put, List.setIfInBounds_toArray, List.set_cons_zero, List.set_cons_succ, List.getElem_toArray, List.getElem_cons_succ, List.getElem_cons_zero]
          refine take_no 25 rfl (by kernel_rfl) (by kernel_rfl) (by kernel_rfl) (by kernel_rfl) (fun _ _ _ h => h) hS (fun _ => trivial) rfl ?_
          try simp only [Act.put, List.setIfInBounds_toArray, List.set_cons_zero, List.set_cons_succ, List.getElem_toArray, List.getElem_cons_succ, List.getElem_cons_zero]
          refine take_no 26 rfl (by kernel_rfl) (by kernel_rfl) (by kernel_rfl) (by kernel_rfl) (fun _ _ _ h => h) hS (fun _ => trivial) rfl ?_
          try simp only [Act.put, List.setIfInBounds_toArray, List.set_cons_zero, List.set_cons_succ, List.getElem_toArray, List.getElem_cons_succ, List.getElem_cons_zero]
          refine take_S (v := ?v27i) 27 rfl (by kernel_rfl) (by kernel_rfl) (by kernel_rfl) (by kernel_rfl) (fun _ _ _ h => h) hS (fun _ => trivial) rfl (fun w' hq => ?h27i) ?_
          case h27i => obtain ⟨q0, q1, q2, q3, -⟩ := hq; change _ = some _ at q0; change _ = some _ at q1; change _ = some _ at q2; change _ = some _ at q3; go_simp; try with_reducible rfl
          try simp only [Act.put, List.setIfInBounds_toArray, List.set_cons_zero, List.set_cons_succ, List.getElem_toArray, List.getElem_cons_succ, List.getElem_cons_zero]
          refine done_D (by kernel_rfl) ?_ _
          clear hS
          go_wp2_with fail
          go_ret
          exact ⟨by rw [show mayB a b c es = false from by unfold mayB; simp; omega]; rfl, HX1.out⟩
        · have d4 : decide (c < b) = false := by simpa using cc
          have Hwr := Lib.hid (show IntKind.u64.wrap (b + (es.length : Nat)) = b + (es.length : Int) from IntWalk.u64_in _ (by omega))
          by_cases co : b + (es.length : Int) < c
          · have d5 : decide (b + (es.length : Int) < c) = true := by simpa using co
            go_wp2_with fail
            generalize w.alloc (.cells #[.int .u64 a, .int .u64 b, .int .u64 c, .slice p es.length k] 45) = W1 at *
            have hS : Holds [(w.heap.size, 0, .int .u64 a), (w.heap.size, 1, .int .u64 b), (w.heap.size, 2, .int .u64 c), (w.heap.size, 3, .slice p es.length k)] W1.drew := ⟨m0, m1, m2, m3, trivial⟩
            have HX1 := Lib.hid HX.out.drew
            refine begin_D (T := Hold0) [] (by kernel_rfl) hS (fun _ => trivial) ?_
            refine take_S (v := ?v0j) 0 rfl (by kernel_rfl) (by kernel_rfl) (by kernel_rfl) (by kernel_rfl) (fun _ _ _ h => h) hS (fun _ => trivial) rfl (fun w' hq => ?h0j) ?_
            case h0j => obtain ⟨q0, q1, q2, q3, -⟩ := hq; change _ = some _ at q0; change _ = some _ at q1; change _ = some _ at q2; change _ = some _ at q3; go_simp; try with_reducible rfl
            try simp only [Act.put, List.setIfInBounds_toArray, List.set_cons_zero, List.set_cons_succ, List.getElem_toArray, List.getElem_cons_succ, List.getElem_cons_zero]
            refine take_S (v := ?v1j) 1 rfl (by kernel_rfl) (by kernel_rfl) (by kernel_rfl) (by kernel_rfl) (fun _ _ _ h => h) hS (fun _ => trivial) rfl (fun w' hq => ?h1j) ?_
            case h1j => obtain ⟨q0, q1, q2, q3, -⟩ := hq; change _ = some _ at q0; change _ = some _ at q1; change _ = some _ at q2; change _ = some _ at q3; go_simp; try with_reducible rfl
            try simp only [Act.put, List.setIfInBounds_toArray, List.set_cons_zero, List.set_cons_succ, List.getElem_toArray, List.getElem_cons_succ, List.getElem_cons_zero]
            refine take_S (v := ?v2j) 2 rfl (by kernel_rfl) (by kernel_rfl) (by kernel_rfl) (by kernel_rfl) (fun _ _ _ h => h) hS (fun _ => trivial) rfl (fun w' hq => ?h2j) ?_
            case h2j => obtain ⟨q0, q1, q2, q3, -⟩ := hq; change _ = some _ at q0; change _ = some _ at q1; change _ = some _ at q2; change _ = some _ at q3; go_simp; try with_reducible rfl
            try simp only [Act.put, List.setIfInBounds_toArray, List.set_cons_zero, List.set_cons_succ, List.getElem_toArray, List.getElem_cons_succ, List.getElem_cons_zero]
            refine take_S (v := ?v3j) 3 rfl (by kernel_rfl) (by kernel_rfl) (by kernel_rfl) (by kernel_rfl) (fun _ _ _ h => h) hS (fun _ => trivial) rfl (fun w' hq => ?h3j) ?_
            case h3j => obtain ⟨q0, q1, q2, q3, -⟩ := hq; change _ = some _ at q0; change _ = some _ at q1; change _ = some _ at q2; change _ = some _ at q3; go_simp; try with_reducible rfl
            try simp only [Act.put, List.setIfInBounds_toArray, List.set_cons_zero, List.set_cons_succ, List.getElem_toArray, List.getElem_cons_succ, List.getElem_cons_zero]
            refine take_S (v := ?v4j) 4 rfl (by kernel_rfl) (by kernel_rfl) (by kernel_rfl) (by kernel_rfl) (fun _ _ _ h => h) hS (fun _ => trivial) rfl (fun w' hq => ?h4j) ?_
            case h4j => obtain ⟨q0, q1, q2, q3, -⟩ := hq; change _ = some _ at q0; change _ = some _ at q1; change _ = some _ at q2; change _ = some _ at q3; go_simp; try with_reducible rfl
            try simp only [Act.put, List.setIfInBounds_toArray, List.set_cons_zero, List.set_cons_succ, List.getElem_toArray, List.getElem_cons_succ, List.getElem_cons_zero]
            refine take_S (v := ?v5j) 5 rfl (by kernel_rfl) (by kernel_rfl) (by kernel_rfl) (by kernel_rfl) (fun _ _ _ h => h) hS (fun _ => trivial) rfl (fun w' hq => ?h5j) ?_
            case h5j => obtain ⟨q0, q1, q2, q3, -⟩ := hq; change _ = some _ at q0; change _ = some _ at q1; change _ = some _ at q2; change _ = some _ at q3; go_simp; try with_reducible rfl
            try simp only [Act.put, List.setIfInBounds_toArray, List.set_cons_zero, List.set_cons_succ, List.getElem_toArray, List.getElem_cons_succ, List.getElem_cons_zero]
            refine take_S (v := ?v6j) 6 rfl (by kernel_rfl) (by kernel_rfl) (by kernel_rfl) (by kernel_rfl) (fun _ _ _ h => h) hS (fun _ => trivial) rfl (fun w' hq => ?h6j) ?_
            case h6j => obtain ⟨q0, q1, q2, q3, -⟩ := hq; change _ = some _ at q0; change _ = some _ at q1; change _ = some _ at q2; change _ = some _ at q3; go_simp; try with_reducible rfl
            try simp only [Act.put, List.setIfInBounds_toArray, List.set_cons_zero, List.set_cons_succ, List.getElem_toArray, List.getElem_cons_succ, List.getElem_cons_zero]
            refine take_S (v := ?v7j) 7 rfl (by kernel_rfl) (by kernel_rfl) (by kernel_rfl) (by kernel_rfl) (fun _ _ _ h => h) hS (fun _ => trivial) rfl (fun w' hq => ?h7j) ?_
            case h7j => obtain ⟨q0, q1, q2, q3, -⟩ := hq; change _ = some _ at q0; change _ = some _ at q1; change _ = some _ at q2; change _ = some _ at q3; go_simp; try with_reducible rfl
            try simp only [Act.put, List.setIfInBounds_toArray, List.set_cons_zero, List.set_cons_succ, List.getElem_toArray, List.getElem_cons_succ, List.getElem_cons_zero]
            refine take_S (v := ?v8j) 8 rfl (by kernel_rfl) (by kernel_rfl) (by kernel_rfl) (by kernel_rfl) (fun _ _ _ h => h) hS (fun _ => trivial) rfl (fun w' hq => ?h8j) ?_
            case h8j => obtain ⟨q0, q1, q2, q3, -⟩ := hq; change _ = some _ at q0; change _ = some _ at q1; change _ = some _ at q2; change _ = some _ at q3; go_simp; try with_reducible rfl
            try simp only [Act.put, List.setIfInBounds_toArray, List.set_cons_zero, List.set_cons_succ, List.getElem_toArray, List.getElem_cons_succ, List.getElem_cons_zero]
            refine take_S (v := ?v9j) 9 rfl (by kernel_rfl) (by kernel_rfl) (by kernel_rfl) (by kernel_rfl) (fun _ _ _ h => h) hS (fun _ => trivial) rfl (fun w' hq => ?h9j) ?_
            case h9j => obtain ⟨q0, q1, q2, q3, -⟩ := hq; change _ = some _ at q0; change _ = some _ at q1; change _ = some _ at q2; change _ = some _ at q3; go_simp; try with_reducible rfl
            try simp only [Act.put, List.setIfInBounds_toArray, List.set_cons_zero, List.set_cons_succ, List.getElem_toArray, List.getElem_cons_succ, List.getElem_cons_zero]
            refine take_S (v := ?v10j) 10 rfl (by kernel_rfl) (by kernel_rfl) (by kernel_rfl) (by kernel_rfl) (fun _ _ _ h => h) hS (fun _ => trivial) rfl (fun w' hq => ?h10j) ?_
            case h10j => obtain ⟨q0, q1, q2, q3, -⟩ := hq; change _ = some _ at q0; change _ = some _ at q1; change _ = some _ at q2; change _ = some _ at q3; go_simp; try with_reducible rfl
            try simp only [Act.put, List.setIfInBounds_toArray, List.set_cons_zero, List.set_cons_succ, List.getElem_toArray, List.getElem_cons_succ, List.getElem_cons_zero]
            refine take_S (v := ?v11j) 11 rfl (by kernel_rfl) (by kernel_rfl) (by kernel_rfl) (by kernel_rfl) (fun _ _ _ h => h) hS (fun _ => trivial) rfl (fun w' hq => ?h11j) ?_
            case h11j => obtain ⟨q0, q1, q2, q3, -⟩ := hq; change _ = some _ at q0; change _ = some _ at q1; change _ = some _ at q2; change _ = some _ at q3; go_simp; try with_reducible rfl
            try simp only [Act.put, List.setIfInBounds_toArray, List.set_cons_zero, List.set_cons_succ, List.getElem_toArray, List.getElem_cons_succ, List.getElem_cons_zero]
            refine take_S (v := ?v12j) 12 rfl (by kernel_rfl) (by kernel_rfl) (by kernel_rfl) (by kernel_rfl) (fun _ _ _ h => h) hS (fun _ => trivial) rfl (fun w' hq => ?h12j) ?_
            case h12j => obtain ⟨q0, q1, q2, q3, -⟩ := hq; change _ = some _ at q0; change _ = some _ at q1; change _ = some _ at q2; change _ = some _ at q3; go_simp; try with_reducible rfl
            try simp only [Act.put, List.setIfInBounds_toArray, List.set_cons_zero, List.set_cons_succ, List.getElem_toArray, List.getElem_cons_succ, List.getElem_cons_zero]
            refine take_S (v := ?v13j) 13 rfl (by kernel_rfl) (by kernel_rfl) (by kernel_rfl) (by kernel_rfl) (fun _ _ _ h => h) hS (fun _ => trivial) rfl (fun w' hq => ?h13j) ?_
            case h13j => obtain ⟨q0, q1, q2, q3, -⟩ := hq; change _ = some _ at q0; change _ = some _ at q1; change _ = some _ at q2; change _ = some _ at q3; go_simp; try with_reducible rfl
            try simp only [Act.put, List.setIfInBounds_toArray, List.set_cons_zero, List.set_cons_succ, List.getElem_toArray, List.getElem_cons_succ, List.getElem_cons_zero]
            refine take_S (v := ?v14j) 14 rfl (by kernel_rfl) (by kernel_rfl) (by kernel_rfl) (by kernel_rfl) (fun _ _ _ h => h) hS (fun _ => trivial) rfl (fun w' hq => ?h14j) ?_
            case h14j => obtain ⟨q0, q1, q2, q3, -⟩ := hq; change _ = some _ at q0; change _ = some _ at q1; change _ = some _ at q2; change _ = some _ at q3; go_simp; try with_reducible rfl
            try simp only [Act.put, List.setIfInBounds_toArray, List.set_cons_zero, List.set_cons_succ, List.getElem_toArray, List.getElem_cons_succ, List.getElem_cons_zero]
            refine take_S (v := ?v15j) 15 rfl (by kernel_rfl) (by kernel_rfl) (by kernel_rfl) (by kernel_rfl) (fun _ _ _ h => h) hS (fun _ => trivial) rfl (fun w' hq => ?h15j) ?_
            case h15j => obtain ⟨q0, q1, q2, q3, -⟩ := hq; change _ = some _ at q0; change _ = some _ at q1; change _ = some _ at q2; change _ = some _ at q3; go_simp; try with_reducible rfl
            try simp only [Act.put, List.setIfInBounds_toArray, List.set_cons_zero, List.set_cons_succ, List.getElem_toArray, List.getElem_cons_succ, List.getElem_cons_zero]
            refine take_S (v := ?v16j) 16 rfl (by kernel_rfl) (by kernel_rfl) (by kernel_rfl) (by kernel_rfl) (fun _ _ _ h => h) hS (fun _ => trivial) rfl (fun w' hq => ?h16j) ?_
            case h16j => obtain ⟨q0, q1, q2, q3, -⟩ := hq; change _ = some _ at q0; change _ = some _ at q1; change _ = some _ at q2; change _ = some _ at q3; go_simp; try with_reducible rfl
            try simp only [Act.put, List.setIfInBounds_toArray, List.set_cons_zero, List.set_cons_succ, List.getElem_toArray, List.getElem_cons_succ, List.getElem_cons_zero]
            refine take_S (v := ?v17j) 17 rfl (by kernel_rfl) (by kernel_rfl) (by kernel_rfl) (by kernel_rfl) (fun _ _ _ h => h) hS (fun _ => trivial) rfl (fun w' hq => ?h17j) ?_
            case h17j => obtain ⟨q0, q1, q2, q3, -⟩ := hq; change _ = some _ at q0; change _ = some _ at q1; change _ = some _ at q2; change _ = some _ at q3; go_simp; try with_reducible rfl
            try simp only [Act.put, List.setIfInBounds_toArray, List.set_cons_zero, List.set_cons_succ, List.getElem_toArray, List.getElem_cons_succ, List.getElem_cons_zero]
            refine take_S (v := ?v18j) 18 rfl (by kernel_rfl) (by kernel_rfl) (by kernel_rfl) (by kernel_rfl) (fun _ _ _ h => h) hS (fun _ => trivial) rfl (fun w' hq => ?h18j) ?_
            case h18j => obtain ⟨q0, q1, q2, q3, -⟩ := hq; change _ = some _ at q0; change _ = some _ at q1; change _ = some _ at q2; change _ = some _ at q3; go_simp; try with_reducible rfl
            try simp only [Act.put, List.setIfInBounds_toArray, List.set_cons_zero, List.set_cons_succ, List.getElem_toArray, List.getElem_cons_succ, List.getElem_cons_zero]
            refine take_S (v := ?v19j) 19 rfl (by kernel_rfl) (by kernel_rfl) (by kernel_rfl) (by kernel_rfl) (fun _ _ _ h => h) hS (fun _ => trivial) rfl (fun w' hq => ?h19j) ?_
            case h19j => obtain ⟨q0, q1, q2, q3, -⟩ := hq; change _ = some _ at q0; change _ = some _ at q1; change _ = some _ at q2; change _ = some _ at q3; go_simp; try with_reducible rfl
            try simp only [Act.put, List.setIfInBounds_toArray, List.set_cons_zero, List.set_cons_succ, List.getElem_toArray, List.getElem_cons_succ, List.getElem_cons_zero]
            refine take_S (v := ?v20j) 20 rfl (by kernel_rfl) (by kernel_rfl) (by kernel_rfl) (by kernel_rfl) (fun _ _ _ h => h) hS (fun _ => trivial) rfl (fun w' hq => ?h20j) ?_
            case h20j => obtain ⟨q0, q1, q2, q3, -⟩ := hq; change _ = some _ at q0; change _ = some _ at q1; change _ = some _ at q2; change _ = some _ at q3; go_simp; try with_reducible rfl
            try simp only [Act.put, List.setIfInBounds_toArray, List.set_cons_zero, List.set_cons_succ, List.getElem_toArray, List.getElem_cons_succ, List.getElem_cons_zero]
            refine take_S (v := ?v21j) 21 rfl (by kernel_rfl) (by kernel_rfl) (by kernel_rfl) (by kernel_rfl) (fun _ _ _ h => h) hS (fun _ => trivial) rfl (fun w' hq => ?h21j) ?_
            case h21j => obtain ⟨q0, q1, q2, q3, -⟩ := hq; change _ = some _ at q0; change _ = some _ at q1; change _ = some _ at q2; change _ = some _ at q3; go_simp; try with_reducible rfl
            try simp only [Act.put, List.setIfInBounds_toArray, List.set_cons_zero, List.set_cons_succ, List.getElem_toArray, List.getElem_cons_succ, List.getElem_cons_zero]
            refine take_S (v := ?v22j) 22 rfl (by kernel_rfl) (by kernel_rfl) (by kernel_rfl) (by kernel_rfl) (fun _ _ _ h => h) hS (fun _ => trivial) rfl (fun w' hq => ?h22j) ?_
            case h22j => obtain ⟨q0, q1, q2, q3, -⟩ := hq; change _ = some _ at q0; change _ = some _ at q1; change _ = some _ at q2; change _ = some _ at q3; go_simp; try with_reducible rfl
            try simp only [Act.put, List.setIfInBounds_toArray, List.set_cons_zero, List.set_cons_succ, List.getElem_toArray, List.getElem_cons_succ, List.getElem_cons_zero]
            refine take_S (v := ?v23j) 23 rfl (by kernel_rfl) (by kernel_rfl) (by kernel_rfl) (by kernel_rfl) (fun _ _ _ h => h) hS (fun _ => trivial) rfl (fun w' hq => ?h23j) ?_
            case h23j => obtain ⟨q0, q1, q2, q3, -⟩ := hq; change _ = some _ at q0; change _ = some _ at q1; change _ = some _ at q2; change _ = some _ at q3; go_simp; try with_reducible rfl
            try simp only [Act.put, List.setIfInBounds_toArray, List.set_cons_zero, List.set_cons_succ, List.getElem_toArray, List.getElem_cons_succ, List.getElem_cons_zero]
            refine take_S (v := ?v24j) 24 rfl (by kernel_rfl) (by kernel_rfl) (by kernel_rfl) (by kernel_rfl) (fun _ _ _ h => h) hS (fun _ => trivial) rfl (fun w' hq => ?h24j) ?_
            case h24j => obtain ⟨q0, q1, q2, q3, -⟩ := hq; change _ = some _ at q0; change _ = some _ at q1; change _ = some _ at q2; change _ = some _ at q3; go_simp; try with_reducible rfl
            try simp only [Act.put, List.setIfInBounds_toArray, List.set_cons_zero, List.set_cons_succ, List.getElem_toArray, List.getElem_cons_succ, List.getElem_cons_zero]
            refine one_D 25 rfl (by kernel_rfl) (fun KQ hK => ?_)
            go_simp
            refine (rf_Op hn).mono ?_
            rintro x W2 ⟨rfl, hb⟩
            rw [Hwr.out]
            have hS2 : Holds [(w.heap.size, 0, .int .u64 a), (w.heap.size, 1, .int .u64 b), (w.heap.size, 2, .int .u64 c), (w.heap.size, 3, .slice p es.length k)] W2 := Holds.below hS hb
            have HX2 := Lib.hid (HX1.out.trans (hb.mono HX1.out.size))
            have HE2 := Lib.hid ((HE.out.below (Below.refl _ W1).drew).below hb)
            refine hK.out _ _ hS2 (fun _ => trivial) ?_
            clear hK hb hS HX1
            refine take_S (v := ?v26jz) 26 rfl (by kernel_rfl) (by kernel_rfl) (by kernel_rfl) (by kernel_rfl) (fun _ _ _ h => h) hS2 (fun _ => trivial) rfl (fun w' hq => ?h26jz) ?_
            case h26jz => go_simp; try with_reducible rfl
            try simp only [Act.put, List.setIfInBounds_toArray, List.set_cons_zero, List.set_cons_succ, List.getElem_toArray, List.getElem_cons_succ, List.getElem_cons_zero]
            refine take_S (v := ?v27jz) 27 rfl (by kernel_rfl) (by kernel_rfl) (by kernel_rfl) (by kernel_rfl) (fun _ _ _ h => h) hS2 (fun _ => trivial) rfl (fun w' hq => ?h27jz) ?_
            case h27jz => go_simp; try with_reducible rfl
            try simp only [Act.put, List.setIfInBounds_toArray, List.set_cons_zero, List.set_cons_succ, List.getElem_toArray, List.getElem_cons_succ, List.getElem_cons_zero]
            refine done_D (by kernel_rfl) ?_ _
            clear hS2
            go_wp2_with fail
            go_ret
            exact ⟨by rw [show mayB a b c es = false from by unfold mayB; simp; omega]; rfl, HX2.out⟩
          · have d5 : decide (b + (es.length : Int) < c) = false := by simpa using co
            go_wp2_with fail
            generalize w.alloc (.cells #[.int .u64 a, .int .u64 b, .int .u64 c, .slice p es.length k] 45) = W1 at *
            have hS : Holds [(w.heap.size, 0, .int .u64 a), (w.heap.size, 1, .int .u64 b), (w.heap.size, 2, .int .u64 c), (w.heap.size, 3, .slice p es.length k)] W1.drew := ⟨m0, m1, m2, m3, trivial⟩
            have HX1 := Lib.hid HX.out.drew
            refine begin_D (T := Hold0) [] (by kernel_rfl) hS (fun _ => trivial) ?_
            refine take_S (v := ?v0k) 0 rfl (by kernel_rfl) (by kernel_rfl) (by kernel_rfl) (by kernel_rfl) (fun _ _ _ h => h) hS (fun _ => trivial) rfl (fun w' hq => ?h0k) ?_
            case h0k => obtain ⟨q0, q1, q2, q3, -⟩ := hq; change _ = some _ at q0; change _ = some _ at q1; change _ = some _ at q2; change _ = some _ at q3; go_simp; try with_reducible rfl
            try simp only [Act.put, List.setIfInBounds_toArray, List.set_cons_zero, List.set_cons_succ, List.getElem_toArray, List.getElem_cons_succ, List.getElem_cons_zero]
            refine take_S (v := ?v1k) 1 rfl (by kernel_rfl) (by kernel_rfl) (by kernel_rfl) (by kernel_rfl) (fun _ _ _ h => h) hS (fun _ => trivial) rfl (fun w' hq => ?h1k) ?_
            case h1k => obtain ⟨q0, q1, q2, q3, -⟩ := hq; change _ = some _ at q0; change _ = some _ at q1; change _ = some _ at q2; change _ = some _ at q3; go_simp; try with_reducible rfl
            try simp only [Act.put, List.setIfInBounds_toArray, List.set_cons_zero, List.set_cons_succ, List.getElem_toArray, List.getElem_cons_succ, List.getElem_cons_zero]
            refine take_S (v := ?v2k) 2 rfl (by kernel_rfl) (by kernel_rfl) (by kernel_rfl) (by kernel_rfl) (fun _ _ _ h => h) hS (fun _ => trivial) rfl (fun w' hq => ?h2k) ?_
            case h2k => obtain ⟨q0, q1, q2, q3, -⟩ := hq; change _ = some _ at q0; change _ = some _ at q1; change _ = some _ at q2; change _ = some _ at q3; go_simp; try with_reducible rfl
            try simp only [Act.put, List.setIfInBounds_toArray, List.set_cons_zero, List.set_cons_succ, List.getElem_toArray, List.getElem_cons_succ, List.getElem_cons_zero]
            refine take_S (v := ?v3k) 3 rfl (by kernel_rfl) (by kernel_rfl) (by kernel_rfl) (by kernel_rfl) (fun _ _ _ h => h) hS (fun _ => trivial) rfl (fun w' hq => ?h3k) ?_
            case h3k => obtain ⟨q0, q1, q2, q3, -⟩ := hq; change _ = some _ at q0; change _ = some _ at q1; change _ = some _ at q2; change _ = some _ at q3; go_simp; try with_reducible rfl
            try simp only [Act.put, List.setIfInBounds_toArray, List.set_cons_zero, List.set_cons_succ, List.getElem_toArray, List.getElem_cons_succ, List.getElem_cons_zero]
            refine take_S (v := ?v4k) 4 rfl (by kernel_rfl) (by kernel_rfl) (by kernel_rfl) (by kernel_rfl) (fun _ _ _ h => h) hS (fun _ => trivial) rfl (fun w' hq => ?h4k) ?_
            case h4k => obtain ⟨q0, q1, q2, q3, -⟩ := hq; change _ = some _ at q0; change _ = some _ at q1; change _ = some _ at q2; change _ = some _ at q3; go_simp; try with_reducible rfl
            try simp only [Act.put, List.setIfInBounds_toArray, List.set_cons_zero, List.set_cons_succ, List.getElem_toArray, List.getElem_cons_succ, List.getElem_cons_zero]
            refine take_S (v := ?v5k) 5 rfl (by kernel_rfl) (by kernel_rfl) (by kernel_rfl) (by kernel_rfl) (fun _ _ _ h => h) hS (fun _ => trivial) rfl (fun w' hq => ?h5k) ?_
            case h5k => obtain ⟨q0, q1, q2, q3, -⟩ := hq; change _ = some _ at q0; change _ = some _ at q1; change _ = some _ at q2; change _ = some _ at q3; go_simp; try with_reducible rfl
            try simp only [Act.put, List.setIfInBounds_toArray, List.set_cons_zero, List.set_cons_succ, List.getElem_toArray, List.getElem_cons_succ, List.getElem_cons_zero]
            refine take_S (v := ?v6k) 6 rfl (by kernel_rfl) (by kernel_rfl) (by kernel_rfl) (by kernel_rfl) (fun _ _ _ h => h) hS (fun _ => trivial) rfl (fun w' hq => ?h6k) ?_
            case h6k => obtain ⟨q0, q1, q2, q3, -⟩ := hq; change _ = some _ at q0; change _ = some _ at q1; change _ = some _ at q2; change _ = some _ at q3; go_simp; try with_reducible rfl
            try simp only [Act.put, List.setIfInBounds_toArray, List.set_cons_zero, List.set_cons_succ, List.getElem_toArray, List.getElem_cons_succ, List.getElem_cons_zero]
            refine take_S (v := ?v7k) 7 rfl (by kernel_rfl) (by kernel_rfl) (by kernel_rfl) (by kernel_rfl) (fun _ _ _ h => h) hS (fun _ => trivial) rfl (fun w' hq => ?h7k) ?_
            case h7k => obtain ⟨q0, q1, q2, q3, -⟩ := hq; change _ = some _ at q0; change _ = some _ at q1; change _ = some _ at q2; change _ = some _ at q3; go_simp; try with_reducible rfl
            try simp only [Act.put, List.setIfInBounds_toArray, List.set_cons_zero, List.set_cons_succ, List.getElem_toArray, List.getElem_cons_succ, List.getElem_cons_zero]
            refine take_S (v := ?v8k) 8 rfl (by kernel_rfl) (by kernel_rfl) (by kernel_rfl) (by kernel_rfl) (fun _ _ _ h => h) hS (fun _ => trivial) rfl (fun w' hq => ?h8k) ?_
            case h8k => obtain ⟨q0, q1, q2, q3, -⟩ := hq; change _ = some _ at q0; change _ = some _ at q1; change _ = some _ at q2; change _ = some _ at q3; go_simp; try with_reducible rfl
            try simp only [Act.put, List.setIfInBounds_toArray, List.set_cons_zero, List.set_cons_succ, List.getElem_toArray, List.getElem_cons_succ, List.getElem_cons_zero]
            refine take_S (v := ?v9k) 9 rfl (by kernel_rfl) (by kernel_rfl) (by kernel_rfl) (by kernel_rfl) (fun _ _ _ h => h) hS (fun _ => trivial) rfl (fun w' hq => ?h9k) ?_
            case h9k => obtain ⟨q0, q1, q2, q3, -⟩ := hq; change _ = some _ at q0; change _ = some _ at q1; change _ = some _ at q2; change _ = some _ at q3; go_simp; try with_reducible rfl
            try simp only [Act.put, List.setIfInBounds_toArray, List.set_cons_zero, List.set_cons_succ, List.getElem_toArray, List.getElem_cons_succ, List.getElem_cons_zero]
            refine take_S (v := ?v10k) 10 rfl (by kernel_rfl) (by kernel_rfl) (by kernel_rfl) (by kernel_rfl) (fun _ _ _ h => h) hS (fun _ => trivial) rfl (fun w' hq => ?h10k) ?_
            case h10k => obtain ⟨q0, q1, q2, q3, -⟩ := hq; change _ = some _ at q0; change _ = some _ at q1; change _ = some _ at q2; change _ = some _ at q3; go_simp; try with_reducible rfl
            try simp only [Act.put, List.setIfInBounds_toArray, List.set_cons_zero, List.set_cons_succ, List.getElem_toArray, List.getElem_cons_succ, List.getElem_cons_zero]
            refine take_S (v := ?v11k) 11 rfl (by kernel_rfl) (by kernel_rfl) (by kernel_rfl) (by kernel_rfl) (fun _ _ _ h => h) hS (fun _ => trivial) rfl (fun w' hq => ?h11k) ?_
            case h11k => obtain ⟨q0, q1, q2, q3, -⟩ := hq; change _ = some _ at q0; change _ = some _ at q1; change _ = some _ at q2; change _ = some _ at q3; go_simp; try with_reducible rfl
            try simp only [Act.put, List.setIfInBounds_toArray, List.set_cons_zero, List.set_cons_succ, List.getElem_toArray, List.getElem_cons_succ, List.getElem_cons_zero]
            refine take_S (v := ?v12k) 12 rfl (by kernel_rfl) (by kernel_rfl) (by kernel_rfl) (by kernel_rfl) (fun _ _ _ h => h) hS (fun _ => trivial) rfl (fun w' hq => ?h12k) ?_
            case h12k => obtain ⟨q0, q1, q2, q3, -⟩ := hq; change _ = some _ at q0; change _ = some _ at q1; change _ = some _ at q2; change _ = some _ at q3; go_simp; try with_reducible rfl
            try simp only [Act.put, List.setIfInBounds_toArray, List.set_cons_zero, List.set_cons_succ, List.getElem_toArray, List.getElem_cons_succ, List.getElem_cons_zero]
            refine take_S (v := ?v13k) 13 rfl (by kernel_rfl) (by kernel_rfl) (by kernel_rfl) (by kernel_rfl) (fun _ _ _ h => h) hS (fun _ => trivial) rfl (fun w' hq => ?h13k) ?_
            case h13k => obtain ⟨q0, q1, q2, q3, -⟩ := hq; change _ = some _ at q0; change _ = some _ at q1; change _ = some _ at q2; change _ = some _ at q3; go_simp; try with_reducible rfl
            try simp only [Act.put, List.setIfInBounds_toArray, List.set_cons_zero, List.set_cons_succ, List.getElem_toArray, List.getElem_cons_succ, List.getElem_cons_zero]
            refine take_S (v := ?v14k) 14 rfl (by kernel_rfl) (by kernel_rfl) (by kernel_rfl) (by kernel_rfl) (fun _ _ _ h => h) hS (fun _ => trivial) rfl (fun w' hq => ?h14k) ?_
            case h14k => obtain ⟨q0, q1, q2, q3, -⟩ := hq; change _ = some _ at q0; change _ = some _ at q1; change _ = some _ at q2; change _ = some _ at q3; go_simp; try with_reducible rfl
            try simp only [Act.put, List.setIfInBounds_toArray, List.set_cons_zero, List.set_cons_succ, List.getElem_toArray, List.getElem_cons_succ, List.getElem_cons_zero]
            refine take_S (v := ?v15k) 15 rfl (by kernel_rfl) (by kernel_rfl) (by kernel_rfl) (by kernel_rfl) (fun _ _ _ h => h) hS (fun _ => trivial) rfl (fun w' hq => ?h15k) ?_
            case h15k => obtain ⟨q0, q1, q2, q3, -⟩ := hq; change _ = some _ at q0; change _ = some _ at q1; change _ = some _ at q2; change _ = some _ at q3; go_simp; try with_reducible rfl
            try simp only [Act.put, List.setIfInBounds_toArray, List.set_cons_zero, List.set_cons_succ, List.getElem_toArray, List.getElem_cons_succ, List.getElem_cons_zero]
            refine take_S (v := ?v16k) 16 rfl (by kernel_rfl) (by kernel_rfl) (by kernel_rfl) (by kernel_rfl) (fun _ _ _ h => h) hS (fun _ => trivial) rfl (fun w' hq => ?h16k) ?_
            case h16k => obtain ⟨q0, q1, q2, q3, -⟩ := hq; change _ = some _ at q0; change _ = some _ at q1; change _ = some _ at q2; change _ = some _ at q3; go_simp; try with_reducible rfl
            try simp only [Act.put, List.setIfInBounds_toArray, List.set_cons_zero, List.set_cons_succ, List.getElem_toArray, List.getElem_cons_succ, List.getElem_cons_zero]
            refine take_S (v := ?v17k) 17 rfl (by kernel_rfl) (by kernel_rfl) (by kernel_rfl) (by kernel_rfl) (fun _ _ _ h => h) hS (fun _ => trivial) rfl (fun w' hq => ?h17k) ?_
            case h17k => obtain ⟨q0, q1, q2, q3, -⟩ := hq; change _ = some _ at q0; change _ = some _ at q1; change _ = some _ at q2; change _ = some _ at q3; go_simp; try with_reducible rfl
            try simp only [Act.put, List.setIfInBounds_toArray, List.set_cons_zero, List.set_cons_succ, List.getElem_toArray, List.getElem_cons_succ, List.getElem_cons_zero]
            refine take_S (v := ?v18k) 18 rfl (by kernel_rfl) (by kernel_rfl) (by kernel_rfl) (by kernel_rfl) (fun _ _ _ h => h) hS (fun _ => trivial) rfl (fun w' hq => ?h18k) ?_
            case h18k => obtain ⟨q0, q1, q2, q3, -⟩ := hq; change _ = some _ at q0; change _ = some _ at q1; change _ = some _ at q2; change _ = some _ at q3; go_simp; try with_reducible rfl
            try simp only [Act.put, List.setIfInBounds_toArray, List.set_cons_zero, List.set_cons_succ, List.getElem_toArray, List.getElem_cons_succ, List.getElem_cons_zero]
            refine take_S (v := ?v19k) 19 rfl (by kernel_rfl) (by kernel_rfl) (by kernel_rfl) (by kernel_rfl) (fun _ _ _ h => h) hS (fun _ => trivial) rfl (fun w' hq => ?h19k) ?_
            case h19k => obtain ⟨q0, q1, q2, q3, -⟩ := hq; change _ = some _ at q0; change _ = some _ at q1; change _ = some _ at q2; change _ = some _ at q3; go_simp; try with_reducible rfl
            try simp only [Act.put, List.setIfInBounds_toArray, List.set_cons_zero, List.set_cons_succ, List.getElem_toArray, List.getElem_cons_succ, List.getElem_cons_zero]
            refine take_S (v := ?v20k) 20 rfl (by kernel_rfl) (by kernel_rfl) (by kernel_rfl) (by kernel_rfl) (fun _ _ _ h => h) hS (fun _ => trivial) rfl (fun w' hq => ?h20k) ?_
            case h20k => obtain ⟨q0, q1, q2, q3, -⟩ := hq; change _ = some _ at q0; change _ = some _ at q1; change _ = some _ at q2; change _ = some _ at q3; go_simp; try with_reducible rfl
            try simp only [Act.put, List.setIfInBounds_toArray, List.set_cons_zero, List.set_cons_succ, List.getElem_toArray, List.getElem_cons_succ, List.getElem_cons_zero]
            refine take_S (v := ?v21k) 21 rfl (by kernel_rfl) (by kernel_rfl) (by kernel_rfl) (by kernel_rfl) (fun _ _ _ h => h) hS (fun _ => trivial) rfl (fun w' hq => ?h21k) ?_
            case h21k => obtain ⟨q0, q1, q2, q3, -⟩ := hq; change _ = some _ at q0; change _ = some _ at q1; change _ = some _ at q2; change _ = some _ at q3; go_simp; try with_reducible rfl
            try simp only [Act.put, List.setIfInBounds_toArray, List.set_cons_zero, List.set_cons_succ, List.getElem_toArray, List.getElem_cons_succ, List.getElem_cons_zero]
            refine take_S (v := ?v22k) 22 rfl (by kernel_rfl) (by kernel_rfl) (by kernel_rfl) (by kernel_rfl) (fun _ _ _ h => h) hS (fun _ => trivial) rfl (fun w' hq => ?h22k) ?_
            case h22k => obtain ⟨q0, q1, q2, q3, -⟩ := hq; change _ = some _ at q0; change _ = some _ at q1; change _ = some _ at q2; change _ = some _ at q3; go_simp; try with_reducible rfl
            try simp only [Act.put, List.setIfInBounds_toArray, List.set_cons_zero, List.set_cons_succ, List.getElem_toArray, List.getElem_cons_succ, List.getElem_cons_zero]
            refine take_S (v := ?v23k) 23 rfl (by kernel_rfl) (by kernel_rfl) (by kernel_rfl) (by kernel_rfl) (fun _ _ _ h => h) hS (fun _ => trivial) rfl (fun w' hq => ?h23k) ?_
            case h23k => obtain ⟨q0, q1, q2, q3, -⟩ := hq; change _ = some _ at q0; change _ = some _ at q1; change _ = some _ at q2; change _ = some _ at q3; go_simp; try with_reducible rfl
            try simp only [Act.put, List.setIfInBounds_toArray, List.set_cons_zero, List.set_cons_succ, List.getElem_toArray, List.getElem_cons_succ, List.getElem_cons_zero]
            refine take_S (v := ?v24k) 24 rfl (by kernel_rfl) (by kernel_rfl) (by kernel_rfl) (by kernel_rfl) (fun _ _ _ h => h) hS (fun _ => trivial) rfl (fun w' hq => ?h24k) ?_
            case h24k => obtain ⟨q0, q1, q2, q3, -⟩ := hq; change _ = some _ at q0; change _ = some _ at q1; change _ = some _ at q2; change _ = some _ at q3; go_simp; try with_reducible rfl
            try simp only [Act.put, List.setIfInBounds_toArray, List.set_cons_zero, List.set_cons_succ, List.getElem_toArray, List.getElem_cons_succ, List.getElem_cons_zero]
            refine one_D 25 rfl (by kernel_rfl) (fun KQ hK => ?_)
            go_simp
            refine (rf_Op hn).mono ?_
            rintro x W2 ⟨rfl, hb⟩
            rw [Hwr.out]
            have hS2 : Holds [(w.heap.size, 0, .int .u64 a), (w.heap.size, 1, .int .u64 b), (w.heap.size, 2, .int .u64 c), (w.heap.size, 3, .slice p es.length k)] W2 := Holds.below hS hb
            have HX2 := Lib.hid (HX1.out.trans (hb.mono HX1.out.size))
            have HE2 := Lib.hid ((HE.out.below (Below.refl _ W1).drew).below hb)
            refine hK.out _ _ hS2 (fun _ => trivial) ?_
            clear hK hb hS HX1
            refine take_S (v := ?v26kz) 26 rfl (by kernel_rfl) (by kernel_rfl) (by kernel_rfl) (by kernel_rfl) (fun _ _ _ h => h) hS2 (fun _ => trivial) rfl (fun w' hq => ?h26kz) ?_
            case h26kz => go_simp; try with_reducible rfl
            try simp only [Act.put, List.setIfInBounds_toArray, List.set_cons_zero, List.set_cons_succ, List.getElem_toArray, List.getElem_cons_succ, List.getElem_cons_zero]
            refine take_S (v := ?v27kz) 27 rfl (by kernel_rfl) (by kernel_rfl) (by kernel_rfl) (by kernel_rfl) (fun _ _ _ h => h) hS2 (fun _ => trivial) rfl (fun w' hq => ?h27kz) ?_
            case h27kz => go_simp; try with_reducible rfl
            try simp only [Act.put, List.setIfInBounds_toArray, List.set_cons_zero, List.set_cons_succ, List.getElem_toArray, List.getElem_cons_succ, List.getElem_cons_zero]
            refine done_D (by kernel_rfl) ?_ _
            obtain ⟨m0, m1, m2, m3, -⟩ := hS2
            change _ = some _ at m3
            clear m0 m1 m2
            go_wp2_with fail
            go_loopw [3] (fun i wr => ∃ j : Nat, j ≤ es.length ∧ i = .int .i64 j ∧ wr = W2 ∧ Hid ((es.take j).any longE = false)) (fun i _ => es.length - (intOf i).toNat)
            case atStart => exact ⟨0, Nat.zero_le _, rfl, rfl, Lib.hid rfl⟩
            case round =>
              obtain ⟨j, hj, rfl, rfl, Hl⟩ := hrel
              by_cases hlt : j < es.length
              · obtain ⟨cs, hr, hEl⟩ := HE2.out
                obtain ⟨bb, off, he, _, _, hcell⟩ := Rd.addr hr (by omega)
                subst he
                obtain ⟨s, hs, hq⟩ := hEl.2 j es[j] (List.getElem?_eq_getElem hlt)
                obtain ⟨e0, e1, e2, e3⟩ := cells4 hcell hs
                obtain ⟨sp, sc, rfl⟩ := Rd.slice hq
                clear hr hcell hs hq hEl e0 e1 e2
                by_cases hx : longE es[j] = true
                · have hlx : (8192 : Int) < (es[j].cmd.length : Int) := by unfold longE at hx; simp at hx; omega
                  have ha := any_at hlt hx
                  have Ha := Lib.hid ha
                  clear ha hx
                  go_wp2_with fail
                  go_ret
                  exact ⟨by rw [show mayB a b c es = false from by unfold mayB; rw [Ha.out]; simp]; rfl, HX2.out⟩
                · have hx : longE es[j] = false := by simpa using hx
                  have hlx : ¬ ((8192 : Int) < (es[j].cmd.length : Int)) := by unfold longE at hx; simp at hx; omega
                  have Hn := Lib.hid (any_take_false Hl.out hlt hx)
                  clear hx
                  go_wp2_with fail
                  go_roundw
                  case rel => exact ⟨j + 1, by omega, by go_num, by trivial, Hn⟩
                  case measure => simp [intOf]; omega
              · obtain rfl : j = es.length := by omega
                have hl := Hl.out
                rw [List.take_length] at hl
                have Hl2 := Lib.hid (show longB es = false from hl)
                clear hl
                go_wp2_with fail
                go_ret
                exact ⟨by rw [show mayB a b c es = true from by unfold mayB; rw [Hl2.out]; simp; omega]; rfl, HX2.out⟩
end Go.Proofs.Ytgmekodfkhihiaa
