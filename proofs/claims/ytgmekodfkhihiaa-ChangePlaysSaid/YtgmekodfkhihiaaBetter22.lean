/-
  pack.Better, pack.Same and what they lean on: the contracts. No condition but that the entries can be read. (Printed by wip/gen_better.py.)
-/
import Derived.Test.YtgmekodfkhihiaaPack22
import Derived.Test.YtgmekodfkhihiaaSame22
import Derived.Test.YtgmekodfkhihiaaAll22
import Derived.Deep.DeepCutAuto
namespace Go.Proofs.Ytgmekodfkhihiaa
open Go.RowKit
set_option linter.unusedSimpArgs false
set_option linter.unusedVariables false

theorem Holds.below : ∀ {l : List (Nat × Nat × Value)} {w w' : World}, Holds l w → Below w.heap.size w w' → Holds l w'
  | [], _, _, _, _ => trivial
  | (g, i, v) :: _, w, _, h, hb => ⟨(hb.cell (p := ⟨g, i, none⟩) (lt_of_cell (show w.cell? ⟨g, i, none⟩ = some v from h.1))).trans h.1, Holds.below h.2 hb⟩

theorem cmp_isNaN {w : World} {a : Int} : Calls Try.prog 58 #[.int .u64 a] w fun x w' => x = .returned (.bool false) ∧ w = w' := by
  go_enter Try.func58, Try.ntmps58
  go_wp2
  go_ret
  exact ⟨rfl, rfl⟩
def cmpI (a b : Int) : Int := if a < b then -1 else if b < a then 1 else 0
theorem cmp_Compare {w : World} {a b : Int} : Calls Try.prog 54 #[.int .u64 a, .int .u64 b] w fun x w' => x = .returned (.int .i64 (cmpI a b)) ∧ w = w' := by
  unfold cmpI
  by_cases h1 : a < b
  · rw [if_pos h1]
    have d1 : decide (a < b) = true := by simpa using h1
    go_enter Try.func54, Try.ntmps54
    go_wp2_with fail
    refine cmp_isNaN.mono ?_
    rintro x _ ⟨rfl, rfl⟩
    go_wp2_with fail
    refine cmp_isNaN.mono ?_
    rintro x _ ⟨rfl, rfl⟩
    go_wp2_with fail
    go_ret
    exact ⟨rfl, rfl⟩
  · rw [if_neg h1]
    have d1 : decide (a < b) = false := by simpa using h1
    by_cases h2 : b < a
    · rw [if_pos h2]
      have d2 : decide (b < a) = true := by simpa using h2
      go_enter Try.func54, Try.ntmps54
      go_wp2_with fail
      refine cmp_isNaN.mono ?_
      rintro x _ ⟨rfl, rfl⟩
      go_wp2_with fail
      refine cmp_isNaN.mono ?_
      rintro x _ ⟨rfl, rfl⟩
      go_wp2_with fail
      go_ret
      exact ⟨rfl, rfl⟩
    · rw [if_neg h2]
      have d2 : decide (b < a) = false := by simpa using h2
      go_enter Try.func54, Try.ntmps54
      go_wp2_with fail
      refine cmp_isNaN.mono ?_
      rintro x _ ⟨rfl, rfl⟩
      go_wp2_with fail
      refine cmp_isNaN.mono ?_
      rintro x _ ⟨rfl, rfl⟩
      go_wp2_with fail
      go_ret
      exact ⟨rfl, rfl⟩
/-- The first that is not zero. -/
def orI (x y : Int) : Int := if x = 0 then y else x
theorem cmp_Or2 {w : World} {g : Nat} {t : TypeId} {x y : Int} (h : Blk w g t #[.int .i64 x, .int .i64 y]) :
    Calls Try.prog 53 #[.slice (some ⟨g, 0, none⟩) 2 2] w fun e w' => e = .returned (.int .i64 (orI x y)) ∧ w = w' := by
  unfold orI
  obtain ⟨a0, a1, f0, f1, hz⟩ := h.c2
  clear h
  go_enter Try.func53, Try.ntmps53
  go_wp2_with fail
  go_loopw [8] (fun i wr => ∃ k : Nat, k ≤ 2 ∧ i = .int .i64 k ∧ (1 ≤ k → x = 0) ∧ (k = 2 → y = 0) ∧ w = wr) (fun i _ => 2 - (intOf i).toNat)
  case atStart => exact ⟨0, by omega, rfl, by omega, by omega, rfl⟩
  case round =>
    obtain ⟨k, hk, rfl, hx, hy, rfl⟩ := hrel
    rcases (by omega : k = 0 ∨ k = 1 ∨ k = 2) with rfl | rfl | rfl
    · by_cases hx0 : x = 0
      · subst hx0
        go_wp2_with fail
        go_roundw
        case rel => exact ⟨1, by omega, rfl, by simp, by simp, by trivial⟩
        case measure => decide
      · have d : (x != 0) = true := by simpa using hx0
        have d2 : (x == 0) = false := by simpa using hx0
        go_wp2_with fail
        go_ret
        first | exact ⟨rfl, rfl⟩ | exact ⟨by simp [hx0], rfl⟩
    · obtain rfl := hx (by omega)
      by_cases hy0 : y = 0
      · subst hy0
        go_wp2_with fail
        go_roundw
        case rel => exact ⟨2, by omega, rfl, by simp, by simp, by trivial⟩
        case measure => decide
      · have d : (y != 0) = true := by simpa using hy0
        have d2 : (y == 0) = false := by simpa using hy0
        go_wp2_with fail
        go_ret
        exact ⟨rfl, rfl⟩
    · obtain rfl := hx (by omega)
      obtain rfl := hy (by omega)
      go_wp2_with fail
      go_ret
      exact ⟨rfl, rfl⟩

/-- Is the first better? By the Last, then by the op. -/
def betterB (l1 o1 l2 o2 : Int) : Bool := decide (l2 < l1 ∨ (l1 = l2 ∧ o2 < o1))
theorem better_cmp (l1 o1 l2 o2 : Int) : decide (0 < orI (cmpI l1 l2) (cmpI o1 o2)) = betterB l1 o1 l2 o2 := by
  unfold betterB orI cmpI
  apply decide_eq_decide.2
  split <;> split <;> omega

set_option maxHeartbeats 3200000 in
theorem pack_Better {w : World} {a1 b1 c1 a2 b2 c2 : Int} {p1 p2 : Option Addr} {n1 k1 n2 k2 : Nat} {r : Bool} (h1 : n1 ≤ 1152921504606846976) (h2 : n2 ≤ 1152921504606846976) (hr : betterB a1 (IntKind.u64.wrap (b1 + n1)) a2 (IntKind.u64.wrap (b2 + n2)) = r) :
    Calls Try.prog 35 #[packVal a1 b1 c1 (.slice p1 n1 k1), packVal a2 b2 c2 (.slice p2 n2 k2)] w fun x w' => x = .returned (.bool r) ∧ Below w.heap.size w w' := by
  have hX := ((Below.refl w.heap.size w).alloc (Nat.le_refl _) (.cells #[.int .u64 a1, .int .u64 b1, .int .u64 c1, .slice p1 n1 k1] 35)).alloc (by simp) (.cells #[.int .u64 a2, .int .u64 b2, .int .u64 c2, .slice p2 n2 k2] 35)
  have kA := (Blk.new w 35 #[.int .u64 a1, .int .u64 b1, .int .u64 c1, .slice p1 n1 k1]).alloc (.cells #[.int .u64 a2, .int .u64 b2, .int .u64 c2, .slice p2 n2 k2] 35)
  have kB := Blk.new (w.alloc (.cells #[.int .u64 a1, .int .u64 b1, .int .u64 c1, .slice p1 n1 k1] 35)) 35 #[.int .u64 a2, .int .u64 b2, .int .u64 c2, .slice p2 n2 k2]
  rw [World.size_alloc] at kB
  unfold packVal
  go_enter Try.func35, Try.ntmps35
  have HX := Lib.hid hX
  have KA := Lib.hid kA
  have KB := Lib.hid kB
  clear hX kA kB
  go_upto_region 1 with fail
  generalize (w.alloc (.cells #[.int .u64 a1, .int .u64 b1, .int .u64 c1, .slice p1 n1 k1] 35)).alloc (.cells #[.int .u64 a2, .int .u64 b2, .int .u64 c2, .slice p2 n2 k2] 35) = W at *
  have hS : Holds [(w.heap.size, 0, .int .u64 a1), (w.heap.size, 1, .int .u64 b1), (w.heap.size, 2, .int .u64 c1), (w.heap.size, 3, .slice p1 n1 k1), (w.heap.size + 1, 0, .int .u64 a2), (w.heap.size + 1, 1, .int .u64 b2), (w.heap.size + 1, 2, .int .u64 c2), (w.heap.size + 1, 3, .slice p2 n2 k2)] W.drew := ⟨KA.out.cell 0, KA.out.cell 1, KA.out.cell 2, KA.out.cell 3, KB.out.cell 0, KB.out.cell 1, KB.out.cell 2, KB.out.cell 3, trivial⟩
  have HXd := Lib.hid HX.out.drew
  clear HX KA KB
  refine begin_D (T := Hold0) [] (by kernel_rfl) hS (fun _ => trivial) ?_
  refine take_S (v := ?v0b) 0 rfl (by kernel_rfl) (by kernel_rfl) (by kernel_rfl) (by kernel_rfl) (fun _ _ _ h => h) hS (fun _ => trivial) rfl (fun w' hq => ?h0b) ?_
  case h0b => obtain ⟨hq0, hq1, hq2, hq3, hq4, hq5, hq6, hq7, -⟩ := hq; change _ = some _ at hq0; change _ = some _ at hq1; change _ = some _ at hq2; change _ = some _ at hq3; change _ = some _ at hq4; change _ = some _ at hq5; change _ = some _ at hq6; change _ = some _ at hq7; go_simp; try with_reducible rfl
  try simp only [Act.put, List.setIfInBounds_toArray, List.set_cons_zero, List.set_cons_succ, List.getElem_toArray, List.getElem_cons_succ, List.getElem_cons_zero]
  refine take_S (v := ?v1b) 1 rfl (by kernel_rfl) (by kernel_rfl) (by kernel_rfl) (by kernel_rfl) (fun _ _ _ h => h) hS (fun _ => trivial) rfl (fun w' hq => ?h1b) ?_
  case h1b => obtain ⟨hq0, hq1, hq2, hq3, hq4, hq5, hq6, hq7, -⟩ := hq; change _ = some _ at hq0; change _ = some _ at hq1; change _ = some _ at hq2; change _ = some _ at hq3; change _ = some _ at hq4; change _ = some _ at hq5; change _ = some _ at hq6; change _ = some _ at hq7; go_simp; try with_reducible rfl
  try simp only [Act.put, List.setIfInBounds_toArray, List.set_cons_zero, List.set_cons_succ, List.getElem_toArray, List.getElem_cons_succ, List.getElem_cons_zero]
  refine take_S (v := ?v2b) 2 rfl (by kernel_rfl) (by kernel_rfl) (by kernel_rfl) (by kernel_rfl) (fun _ _ _ h => h) hS (fun _ => trivial) rfl (fun w' hq => ?h2b) ?_
  case h2b => obtain ⟨hq0, hq1, hq2, hq3, hq4, hq5, hq6, hq7, -⟩ := hq; change _ = some _ at hq0; change _ = some _ at hq1; change _ = some _ at hq2; change _ = some _ at hq3; change _ = some _ at hq4; change _ = some _ at hq5; change _ = some _ at hq6; change _ = some _ at hq7; go_simp; try with_reducible rfl
  try simp only [Act.put, List.setIfInBounds_toArray, List.set_cons_zero, List.set_cons_succ, List.getElem_toArray, List.getElem_cons_succ, List.getElem_cons_zero]
  refine take_S (v := ?v3b) 3 rfl (by kernel_rfl) (by kernel_rfl) (by kernel_rfl) (by kernel_rfl) (fun _ _ _ h => h) hS (fun _ => trivial) rfl (fun w' hq => ?h3b) ?_
  case h3b => obtain ⟨hq0, hq1, hq2, hq3, hq4, hq5, hq6, hq7, -⟩ := hq; change _ = some _ at hq0; change _ = some _ at hq1; change _ = some _ at hq2; change _ = some _ at hq3; change _ = some _ at hq4; change _ = some _ at hq5; change _ = some _ at hq6; change _ = some _ at hq7; go_simp; try with_reducible rfl
  try simp only [Act.put, List.setIfInBounds_toArray, List.set_cons_zero, List.set_cons_succ, List.getElem_toArray, List.getElem_cons_succ, List.getElem_cons_zero]
  refine take_S (v := ?v5b) 5 rfl (by kernel_rfl) (by kernel_rfl) (by kernel_rfl) (by kernel_rfl) (fun _ _ _ h => h) hS (fun _ => trivial) rfl (fun w' hq => ?h5b) ?_
  case h5b => obtain ⟨hq0, hq1, hq2, hq3, hq4, hq5, hq6, hq7, -⟩ := hq; change _ = some _ at hq0; change _ = some _ at hq1; change _ = some _ at hq2; change _ = some _ at hq3; change _ = some _ at hq4; change _ = some _ at hq5; change _ = some _ at hq6; change _ = some _ at hq7; go_simp; try with_reducible rfl
  try simp only [Act.put, List.setIfInBounds_toArray, List.set_cons_zero, List.set_cons_succ, List.getElem_toArray, List.getElem_cons_succ, List.getElem_cons_zero]
  refine take_S (v := ?v7b) 7 rfl (by kernel_rfl) (by kernel_rfl) (by kernel_rfl) (by kernel_rfl) (fun _ _ _ h => h) hS (fun _ => trivial) rfl (fun w' hq => ?h7b) ?_
  case h7b => obtain ⟨hq0, hq1, hq2, hq3, hq4, hq5, hq6, hq7, -⟩ := hq; change _ = some _ at hq0; change _ = some _ at hq1; change _ = some _ at hq2; change _ = some _ at hq3; change _ = some _ at hq4; change _ = some _ at hq5; change _ = some _ at hq6; change _ = some _ at hq7; go_simp; try with_reducible rfl
  try simp only [Act.put, List.setIfInBounds_toArray, List.set_cons_zero, List.set_cons_succ, List.getElem_toArray, List.getElem_cons_succ, List.getElem_cons_zero]
  refine one_D 4 rfl (by kernel_rfl) (fun KQ hK => ?_)
  go_simp
  refine cmp_Compare.mono ?_
  rintro x _ ⟨rfl, rfl⟩
  refine hK.out _ _ hS (fun _ => trivial) ?_
  clear hK
  refine one_D 6 rfl (by kernel_rfl) (fun KQ hK => ?_)
  go_simp
  refine (pack_Op (a := a1) (b := b1) (c := c1) (p := p1) (k := k1) h1).mono ?_
  rintro x w5 ⟨rfl, hb⟩
  have hS5 := Holds.below hS hb
  have HX5 := Lib.hid (HXd.out.trans (hb.mono HXd.out.size))
  refine hK.out _ _ hS5 (fun _ => trivial) ?_
  clear hK hS hb HXd
  refine one_D 8 rfl (by kernel_rfl) (fun KQ hK => ?_)
  go_simp
  refine (pack_Op (a := a2) (b := b2) (c := c2) (p := p2) (k := k2) h2).mono ?_
  rintro x w6 ⟨rfl, hb⟩
  have hS6 := Holds.below hS5 hb
  have HX6 := Lib.hid (HX5.out.trans (hb.mono HX5.out.size))
  refine hK.out _ _ hS6 (fun _ => trivial) ?_
  clear hK hS5 hb HX5
  refine one_D 9 rfl (by kernel_rfl) (fun KQ hK => ?_)
  go_simp
  refine cmp_Compare.mono ?_
  rintro x _ ⟨rfl, rfl⟩
  refine hK.out _ _ hS6 (fun _ => trivial) ?_
  clear hK
  refine one_D 10 rfl (by kernel_rfl) (fun KQ hK => ?_)
  go_simp
  generalize hx1 : cmpI a1 a2 = x1 at *
  generalize hx2 : cmpI (IntKind.u64.wrap (b1 + n1)) (IntKind.u64.wrap (b2 + n2)) = x2 at *
  have hb := (Below.refl w6.heap.size w6).alloc (Nat.le_refl _) (.cells #[.int .i64 x1, .int .i64 x2] 3)
  have kO := Blk.new w6 3 #[.int .i64 x1, .int .i64 x2]
  have hS7 := Holds.below hS6 hb
  have HX7 := Lib.hid (HX6.out.trans (hb.mono HX6.out.size))
  have KO := Lib.hid kO
  refine hK.out _ _ hS7 (fun _ => trivial) ?_
  clear hK hS6 hb HX6 kO
  refine one_D 11 rfl (by kernel_rfl) (fun KQ hK => ?_)
  go_simp
  refine (cmp_Or2 KO.out).mono ?_
  rintro x _ ⟨rfl, rfl⟩
  refine hK.out _ _ hS7 (fun _ => trivial) ?_
  clear hK
  refine take_S (v := ?v12b) 12 rfl (by kernel_rfl) (by kernel_rfl) (by kernel_rfl) (by kernel_rfl) (fun _ _ _ h => h) hS7 (fun _ => trivial) rfl (fun w' hq => ?h12b) ?_
  case h12b => obtain ⟨hq0, hq1, hq2, hq3, hq4, hq5, hq6, hq7, -⟩ := hq; change _ = some _ at hq0; change _ = some _ at hq1; change _ = some _ at hq2; change _ = some _ at hq3; change _ = some _ at hq4; change _ = some _ at hq5; change _ = some _ at hq6; change _ = some _ at hq7; go_simp; try with_reducible rfl
  try simp only [Act.put, List.setIfInBounds_toArray, List.set_cons_zero, List.set_cons_succ, List.getElem_toArray, List.getElem_cons_succ, List.getElem_cons_zero]
  refine take_S (v := ?v13b) 13 rfl (by kernel_rfl) (by kernel_rfl) (by kernel_rfl) (by kernel_rfl) (fun _ _ _ h => h) hS7 (fun _ => trivial) rfl (fun w' hq => ?h13b) ?_
  case h13b => obtain ⟨hq0, hq1, hq2, hq3, hq4, hq5, hq6, hq7, -⟩ := hq; change _ = some _ at hq0; change _ = some _ at hq1; change _ = some _ at hq2; change _ = some _ at hq3; change _ = some _ at hq4; change _ = some _ at hq5; change _ = some _ at hq6; change _ = some _ at hq7; go_simp; try with_reducible rfl
  try simp only [Act.put, List.setIfInBounds_toArray, List.set_cons_zero, List.set_cons_succ, List.getElem_toArray, List.getElem_cons_succ, List.getElem_cons_zero]
  refine done_D (by kernel_rfl) ?_ _
  clear hS7
  go_wp2_with fail
  go_ret
  refine ⟨?_, HX7.out⟩
  rw [← hr, ← better_cmp, hx1, hx2]
  rfl

/-- Two rows of entries alike. -/
def sameL (es fs : List Ent) : Bool := decide (es.length = fs.length) && (es.zip fs).all fun p => sameB p.1 p.2
theorem sameL_self (es : List Ent) : sameL es es = true := by
  unfold sameL
  rw [Bool.and_eq_true]
  refine ⟨by simp, List.all_eq_true.2 fun p hp => ?_⟩
  obtain ⟨i, hi, rfl⟩ := List.getElem_of_mem hp
  rw [List.getElem_zip]
  exact sameB_self _
theorem sameL_at {es fs : List Ent} {k : Nat} (hl : es.length = fs.length) (hk : k < es.length) (h : sameB es[k] (fs[k]'(hl ▸ hk)) = false) : sameL es fs = false := by
  unfold sameL
  rw [Bool.and_eq_false_iff]
  refine .inr (List.all_eq_false.2 ⟨(es[k], fs[k]'(hl ▸ hk)), ?_, by simp [h]⟩)
  have : (es.zip fs)[k]'(by rw [List.length_zip]; omega) ∈ es.zip fs := List.getElem_mem _
  rw [List.getElem_zip] at this
  exact this
theorem sameL_all {es fs : List Ent} (hl : es.length = fs.length) (h : ∀ k (hk : k < es.length), sameB es[k] (fs[k]'(hl ▸ hk)) = true) : sameL es fs = true := by
  unfold sameL
  rw [Bool.and_eq_true]
  refine ⟨by simpa using hl, List.all_eq_true.2 fun p hp => ?_⟩
  obtain ⟨i, hi, rfl⟩ := List.getElem_of_mem hp
  rw [List.getElem_zip]
  exact h i (by rw [List.length_zip] at hi; omega)

set_option maxHeartbeats 3200000 in
theorem slices_EqualFunc {w : World} {S U : Nat → Prop} {v u : Value} {es fs : List Ent} (h : EntsRd w S v es) (k : EntsRd w U u fs) (hn : es.length ≤ 1152921504606846976) :
    Calls Try.prog 40 #[v, u, .func (.func 13) #[] #[]] w fun x w' => x = .returned (.bool (sameL es fs)) ∧ Below w.heap.size w w' := by
  obtain ⟨cs, hr, hE⟩ := h
  obtain ⟨ds, kr, kE⟩ := k
  obtain ⟨p, c, rfl⟩ := Rd.slice hr
  obtain ⟨q, d, rfl⟩ := Rd.slice kr
  have Hr := Lib.hid hr
  have HE := Lib.hid hE
  have Kr := Lib.hid kr
  have KE := Lib.hid kE
  clear hr hE kr kE
  by_cases hl : es.length = fs.length
  · have Hl := Lib.hid hl
    have hfl : fs.length ≤ 1152921504606846976 := by omega
    rw [← hl] at Kr ⊢
    clear hl
    go_enter Try.func40, Try.ntmps40
    go_wp2_with fail
    go_loopw [17] (fun i wr => ∃ k : Nat, k ≤ es.length ∧ i = .int .i64 k ∧ Hid ((∀ j (hj : j < es.length), j < k → sameB es[j] (fs[j]'(Hl.out ▸ hj)) = true) ∧ Below w.heap.size w wr)) (fun i _ => es.length - (intOf i).toNat)
    case atStart => exact ⟨0, Nat.zero_le _, rfl, Lib.hid ⟨fun j _ h => absurd h (by omega), Below.refl _ _⟩⟩
    case round =>
      obtain ⟨k, hk, rfl, hR⟩ := hrel
      by_cases hlt : k < es.length
      · obtain ⟨b, off, he, hc1, _, hcell⟩ := Rd.addr Hr.out (by omega)
        subst he
        obtain ⟨s, hs, hq⟩ := HE.out.2 k es[k] (List.getElem?_eq_getElem hlt)
        obtain ⟨e0, e1, e2, e3⟩ := cells4 hcell hs
        obtain ⟨b', off', he, hc2, _, hcell'⟩ := Rd.addr Kr.out (by omega)
        subst he
        obtain ⟨s', hs', hq'⟩ := KE.out.2 k (fs[k]'(Hl.out ▸ hlt)) (List.getElem?_eq_getElem (Hl.out ▸ hlt))
        obtain ⟨f0, f1, f2, f3⟩ := cells4 hcell' hs'
        obtain ⟨hc, -⟩ := bcell hR.out.2
        have lt1 := lt_of_cell e0
        have lt2 := lt_of_cell f0
        have hz := hR.out.2.size
        have lt3 : b < wr.heap.size := by omega
        have lt4 : b' < wr.heap.size := by omega
        rw [← hc b _ lt1] at e0 e1 e2 e3
        rw [← hc b' _ lt2] at f0 f1 f2 f3
        obtain ⟨sp, sc, rfl⟩ := Rd.slice hq
        obtain ⟨sp', sc', rfl⟩ := Rd.slice hq'
        have Hq := Lib.hid (Rd.below hq (by decide) hR.out.2)
        have Hq' := Lib.hid (Rd.below hq' (by decide) hR.out.2)
        obtain ⟨fe, hfe⟩ : ∃ fe, fs[k]'(Hl.out ▸ hlt) = fe := ⟨_, rfl⟩
        have Hfe := Lib.hid hfe
        rw [hfe] at f0 f1 f2 f3 Hq'
        clear hcell hcell' hs hs' hq hq' hc hfe
        go_wp2_with fail
        have hb2 : Below wr.heap.size wr ((wr.alloc (.cells #[.int .u64 es[k].t, .int .u32 es[k].c, .int .u64 es[k].r, .slice sp es[k].cmd.length sc] 32)).alloc (.cells #[.int .u64 fe.t, .int .u32 fe.c, .int .u64 fe.r, .slice sp' fe.cmd.length sc'] 32)) := ((Below.refl wr.heap.size wr).alloc (Nat.le_refl _) _).alloc (by simp) _
        refine (log_Same (e := es[k]) (f := fe) (Rd.below Hq.out (by decide) hb2) (Rd.below Hq'.out (by decide) hb2)).mono ?_
        rintro x w3 ⟨rfl, hX⟩
        have HX := Lib.hid (hR.out.2.trans ((hb2.trans (hX.mono hb2.size)).mono hR.out.2.size))
        have Hall := Lib.hid hR.out.1
        clear hX hb2 hR e0 e1 e2 e3 f0 f1 f2 f3
        by_cases hsb : sameB es[k] fe = true
        · rw [hsb]
          have Hsb := Lib.hid hsb
          clear hsb
          go_wp2_with fail
          go_roundw
          case rel =>
            refine ⟨k + 1, by omega, by go_num, Lib.hid ⟨fun j hj hjk => ?_, HX.out⟩⟩
            rcases (by omega : j < k ∨ j = k) with h | rfl
            · exact Hall.out j hj h
            · rw [Hfe.out]; exact Hsb.out
          case measure => simp [intOf]; omega
        · have hsb : sameB es[k] fe = false := by simpa using hsb
          rw [hsb]
          have Hsb := Lib.hid hsb
          clear hsb
          go_wp2_with fail
          go_ret
          exact ⟨by rw [sameL_at Hl.out hlt (by rw [Hfe.out]; exact Hsb.out)]; rfl, HX.out⟩
      · obtain rfl : k = es.length := by omega
        have h := hR.out.1
        go_wp2_with fail
        go_ret
        exact ⟨by rw [sameL_all Hl.out (fun j hj => h j hj hj)]; rfl, hR.out.2⟩
  · have hne : ((es.length : Int) != (fs.length : Int)) = true := by simp; omega
    have hs : sameL es fs = false := by unfold sameL; simp [hl]
    rw [hs]
    go_enter Try.func40, Try.ntmps40
    go_wp2_with fail
    go_ret
    exact ⟨rfl, Below.refl _ _⟩

/-- Two packs alike. -/
def sameP (a1 b1 c1 a2 b2 c2 : Int) (es fs : List Ent) : Bool := decide (a1 = a2 ∧ b1 = b2 ∧ c1 = c2) && sameL es fs
set_option maxHeartbeats 3200000 in
theorem pack_Same {w : World} {S U : Nat → Prop} {a1 b1 c1 a2 b2 c2 : Int} {v u : Value} {es fs : List Ent} (h : EntsRd w S v es) (k : EntsRd w U u fs) (hn : es.length ≤ 1152921504606846976) :
    Calls Try.prog 16 #[packVal a1 b1 c1 v, packVal a2 b2 c2 u] w fun x w' => x = .returned (.bool (sameP a1 b1 c1 a2 b2 c2 es fs)) ∧ Below w.heap.size w w' := by
  obtain ⟨cs, hr, hE⟩ := id h
  obtain ⟨ds, kr, kE⟩ := id k
  obtain ⟨p, c, rfl⟩ := Rd.slice hr
  obtain ⟨q, d, rfl⟩ := Rd.slice kr
  clear hr hE kr kE
  have hX := ((Below.refl w.heap.size w).alloc (Nat.le_refl _) (.cells #[.int .u64 a1, .int .u64 b1, .int .u64 c1, .slice p es.length c] 35)).alloc (by simp) (.cells #[.int .u64 a2, .int .u64 b2, .int .u64 c2, .slice q fs.length d] 35)
  have H := Lib.hid h
  have K := Lib.hid k
  have HX := Lib.hid hX
  clear h k hX
  unfold packVal sameP
  by_cases ha : a1 = a2
  · subst ha
    by_cases hb : b1 = b2
    · subst hb
      by_cases hc : c1 = c2
      · subst hc
        go_enter Try.func16, Try.ntmps16
        go_wp2_with fail
        refine (slices_EqualFunc (H.out.below HX.out) (K.out.below HX.out) hn).mono ?_
        rintro x w1 ⟨rfl, hX⟩
        have HX1 := Lib.hid (HX.out.trans (hX.mono HX.out.size))
        clear hX
        go_wp2_with fail
        go_ret
        exact ⟨by simp <;> rfl, HX1.out⟩
      · have hc' : (c1 == c2) = false := by simpa using hc
        go_enter Try.func16, Try.ntmps16
        go_wp2_with fail
        go_ret
        exact ⟨by simp [hc] <;> rfl, HX.out⟩
    · have hb' : (b1 == b2) = false := by simpa using hb
      go_enter Try.func16, Try.ntmps16
      go_wp2_with fail
      go_ret
      exact ⟨by simp [hb] <;> rfl, HX.out⟩
  · have ha' : (a1 == a2) = false := by simpa using ha
    go_enter Try.func16, Try.ntmps16
    go_wp2_with fail
    go_ret
    exact ⟨by simp [ha] <;> rfl, HX.out⟩
end Go.Proofs.Ytgmekodfkhihiaa
