/-
  Rows held against each other, by slices.Equal and by the references: their contracts. (Printed by wip/gen_same15.py.)
-/
import Derived.Test.YtciojggkcmdjiaaDoorAnM15
namespace Go.Proofs.YtciojggkcmdjiaaDoor
open Go.RowKit
set_option linter.unusedSimpArgs false
set_option linter.unusedVariables false

set_option maxRecDepth 10000 in
theorem run_neq_seat (w : World) (a0 a1 a2 b0 b1 b2 : Int) :
    (binOp .neq 86 (.agg #[.int .u32 a0, .int .i64 a1, .int .u64 a2]) (.agg #[.int .u32 b0, .int .i64 b1, .int .u64 b2])).run Tryd.prog w = .ok (.bool (!(a0 == b0 && (a1 == b1 && a2 == b2)))) w := by
  have hS : Tryd.prog.underlying 86 = some (.struct (Tryd.prog.fieldsOf 86)) := by kernel_rfl
  have hp : Tryd.prog.stoodInHeld 86 = false := by kernel_rfl
  rw [run_neq_struct, show (10000 : Nat) = 9999 + 1 from rfl, run_equalIn_agg w 9999 86 _ _ hS hp]
  simp only [Program.fieldsOf, Tryd.underlying86]
  clear hS hp
  have u3 := Tryd.underlying3
  have ag3 := Tryd.isAgg3
  have z3 := Tryd.sizeOf3
  have u5 := Tryd.underlying22
  have a5 := Tryd.isAgg22
  have z5 := Tryd.sizeOf22
  have u6 := Tryd.underlying23
  have a6 := Tryd.isAgg23
  have z6 := Tryd.sizeOf23
  by_cases h0 : a0 = b0
  · by_cases h1 : a1 = b1
    · subst h0; subst h1
      go_simp
      by_cases h2 : a2 = b2 <;> simp [h2]
    · subst h0
      go_simp
  · go_simp
theorem guard_seat (w : World) (x y : Operand) (xs ys : Array Value) : (eqGuard .neq 86 x y (.agg xs) (.agg ys)).run Tryd.prog w = .ok () w := run_eqGuard_agg w .neq 86 x y xs ys (by kernel_rfl)
set_option maxRecDepth 10000 in
theorem run_eql_id (w : World) (a0 a1 b0 b1 : Int) :
    (binOp .eql 44 (.agg #[.int .u32 a0, .int .u64 a1]) (.agg #[.int .u32 b0, .int .u64 b1])).run Tryd.prog w = .ok (.bool (a0 == b0 && a1 == b1)) w := by
  have hS : Tryd.prog.underlying 44 = some (.struct (Tryd.prog.fieldsOf 44)) := by kernel_rfl
  have hp : Tryd.prog.stoodInHeld 44 = false := by kernel_rfl
  rw [run_eql_struct, show (10000 : Nat) = 9999 + 1 from rfl, run_equalIn_agg w 9999 44 _ _ hS hp]
  simp only [Program.fieldsOf, Tryd.underlying44]
  clear hS hp
  have u5 := Tryd.underlying22
  have a5 := Tryd.isAgg22
  have z5 := Tryd.sizeOf22
  have u6 := Tryd.underlying23
  have a6 := Tryd.isAgg23
  have z6 := Tryd.sizeOf23
  by_cases h0 : a0 = b0
  · subst h0
    go_simp
    by_cases h2 : a1 = b1 <;> simp [h2]
  · go_simp
theorem guard_id (w : World) (x y : Operand) (xs ys : Array Value) : (eqGuard .eql 44 x y (.agg xs) (.agg ys)).run Tryd.prog w = .ok () w := run_eqGuard_agg w .eql 44 x y xs ys (by kernel_rfl)
set_option maxHeartbeats 3200000 in
theorem slices_Equal_C {w : World} {S T : Nat → Prop} {v u : Value} {us vs : List Int} (h : ChsRd w S v us) (k : ChsRd w T u vs) (hl : us.length ≤ 1000000) (hl2 : vs.length ≤ 1000000) :
    Calls Tryd.prog 45 #[v, u] w fun x w' => x = .returned (.bool (decide (us = vs))) ∧ Below w.heap.size w w' := by
  obtain ⟨p, c, rfl⟩ := h.slice
  obtain ⟨q, d, rfl⟩ := k.slice
  have H := Lib.hid h
  have K := Lib.hid k
  obtain ⟨r, hr⟩ : ∃ x, decide (us = vs) = x := ⟨_, rfl⟩
  rw [hr]
  have Hr := Lib.hid hr
  clear h k hr
  by_cases hlen : us.length = vs.length
  · have Hlen := Lib.hid hlen
    have dl : ((us.length : Int) != (vs.length : Int)) = false := by simp; omega
    clear hlen
    go_enter Tryd.func45, Tryd.ntmps45
    go_wp2_with fail
    go_loopw [13] (fun iv wr => ∃ j : Nat, j ≤ us.length ∧ iv = .int .i64 j ∧ Hid (Below w.heap.size w wr ∧ ∀ i (hi : i < us.length) (hi2 : i < vs.length), i < j → us[i] = vs[i])) (fun iv _ => us.length - (intOf iv).toNat)
    case atStart => exact ⟨0, Nat.zero_le _, rfl, Lib.hid ⟨Below.refl _ w, fun i _ _ h => absurd h (by omega)⟩⟩
    case round =>
      obtain ⟨j, hj, rfl, hR⟩ := hrel
      by_cases hlt : j < us.length
      · have hlt2 : j < vs.length := by have := Hlen.out; omega
        have hlti : (j : Int) < (us.length : Int) := by omega
        obtain ⟨g, off, rfl, hc, e0⟩ := (H.out.below hR.out.1).at_ hlt
        obtain ⟨g', off', rfl, hd, d0⟩ := (K.out.below hR.out.1).at_ hlt2
        have Hn := Lib.hid (show ∀ (x y : _), us[j] = x → vs[j] = y → (x = y → ∀ i (hi : i < us.length) (hi2 : i < vs.length), i < j + 1 → us[i] = vs[i]) ∧ (x ≠ y → r = false) from fun x y hx hy => ⟨fun e i hi hi2 hij => by
            rcases Nat.lt_succ_iff_lt_or_eq.1 hij with h | rfl
            · exact hR.out.2 i hi hi2 h
            · rw [hx, hy, e], fun hne => by
            rw [← Hr.out]
            refine decide_eq_false (fun e => hne ?_)
            subst e
            rw [← hx, ← hy]⟩)
        have Hn2 := Lib.hid (Hn.out _ _ rfl rfl)
        generalize us[j]'hlt = x at *
        generalize vs[j]'hlt2 = y at *
        have HB := Lib.hid hR.out.1.drew
        clear Hn hR
        obtain ⟨z, hz⟩ : ∃ z, (x == y) = z := ⟨_, rfl⟩
        have Hz := Lib.hid (show z = true ↔ x = y from by
          rw [← hz]
          simp)
        have hz2 : (x != y) = !z := by rw [← hz]; rfl
        cases z with
        | true =>
          have HN := Lib.hid (Hn2.out.1 (Hz.out.1 rfl))
          clear Hn2
          go_wp2_with fail
          go_region
          clear e0 d0 hz hz2
          go_wp2_with fail
          go_roundw
          case rel => exact ⟨j + 1, by omega, by go_num, Lib.hid ⟨HB.out, HN.out⟩⟩
          case measure => simp [intOf]; omega
        | false =>
          obtain rfl : r = false := Hn2.out.2 (fun e => by have := Hz.out.2 e; cases this)
          clear Hn2
          go_wp2_with fail
          go_region
          clear e0 d0 hz hz2
          go_wp2_with fail
          go_ret
          exact ⟨rfl, HB.out⟩
      · obtain rfl : r = true := by
          rw [← Hr.out]
          refine decide_eq_true (List.ext_getElem Hlen.out fun i h1 h2 => hR.out.2 i h1 h2 (by omega))
        have HB := Lib.hid hR.out.1
        clear hR
        go_wp2_with fail
        go_ret
        exact ⟨rfl, HB.out⟩
  · have dl : ((us.length : Int) != (vs.length : Int)) = true := by simp; omega
    obtain rfl : r = false := by rw [← Hr.out]; exact decide_eq_false (fun e => hlen (by rw [e]))
    clear hlen
    go_enter Tryd.func45, Tryd.ntmps45
    go_wp2_with fail
    go_ret
    exact ⟨rfl, Below.refl _ w⟩
set_option maxHeartbeats 3200000 in
theorem slices_Equal_S {w : World} {S T : Nat → Prop} {v u : Value} {us vs : List St} (h : StsRd w S v us) (k : StsRd w T u vs) (hl : us.length ≤ 1000000) (hl2 : vs.length ≤ 1000000) :
    Calls Tryd.prog 47 #[v, u] w fun x w' => x = .returned (.bool (decide (us = vs))) ∧ Below w.heap.size w w' := by
  obtain ⟨p, c, rfl⟩ := h.slice
  obtain ⟨q, d, rfl⟩ := k.slice
  have H := Lib.hid h
  have K := Lib.hid k
  obtain ⟨r, hr⟩ : ∃ x, decide (us = vs) = x := ⟨_, rfl⟩
  rw [hr]
  have Hr := Lib.hid hr
  clear h k hr
  by_cases hlen : us.length = vs.length
  · have Hlen := Lib.hid hlen
    have dl : ((us.length : Int) != (vs.length : Int)) = false := by simp; omega
    clear hlen
    go_enter Tryd.func47, Tryd.ntmps47
    go_wp2_with fail
    go_loopw [13] (fun iv wr => ∃ j : Nat, j ≤ us.length ∧ iv = .int .i64 j ∧ Hid (Below w.heap.size w wr ∧ ∀ i (hi : i < us.length) (hi2 : i < vs.length), i < j → us[i] = vs[i])) (fun iv _ => us.length - (intOf iv).toNat)
    case atStart => exact ⟨0, Nat.zero_le _, rfl, Lib.hid ⟨Below.refl _ w, fun i _ _ h => absurd h (by omega)⟩⟩
    case round =>
      obtain ⟨j, hj, rfl, hR⟩ := hrel
      by_cases hlt : j < us.length
      · have hlt2 : j < vs.length := by have := Hlen.out; omega
        have hlti : (j : Int) < (us.length : Int) := by omega
        obtain ⟨g, off, rfl, hc, e0, e1, e2⟩ := (H.out.below hR.out.1).at_ hlt
        obtain ⟨g', off', rfl, hd, d0, d1, d2⟩ := (K.out.below hR.out.1).at_ hlt2
        have Hn := Lib.hid (show ∀ (x y : _), us[j] = x → vs[j] = y → (x = y → ∀ i (hi : i < us.length) (hi2 : i < vs.length), i < j + 1 → us[i] = vs[i]) ∧ (x ≠ y → r = false) from fun x y hx hy => ⟨fun e i hi hi2 hij => by
            rcases Nat.lt_succ_iff_lt_or_eq.1 hij with h | rfl
            · exact hR.out.2 i hi hi2 h
            · rw [hx, hy, e], fun hne => by
            rw [← Hr.out]
            refine decide_eq_false (fun e => hne ?_)
            subst e
            rw [← hx, ← hy]⟩)
        have Hn2 := Lib.hid (Hn.out _ _ rfl rfl)
        generalize us[j]'hlt = x at *
        generalize vs[j]'hlt2 = y at *
        have HB := Lib.hid hR.out.1.drew
        clear Hn hR
        obtain ⟨x0, x1, x2⟩ := x
        obtain ⟨y0, y1, y2⟩ := y
        simp only at e0 e1 e2 d0 d1 d2
        have qn := fun w => run_neq_seat w x0 x1 x2 y0 y1 y2
        have qg := guard_seat
        obtain ⟨z, hz⟩ : ∃ z, (x0 == y0 && (x1 == y1 && x2 == y2)) = z := ⟨_, rfl⟩
        rw [hz] at qn
        have Hz := Lib.hid (show z = true ↔ (⟨x0, x1, x2⟩ : St) = ⟨y0, y1, y2⟩ from by
          rw [← hz]
          simp [St.mk.injEq])
        clear hz
        cases z with
        | true =>
          have HN := Lib.hid (Hn2.out.1 (Hz.out.1 rfl))
          clear Hn2
          go_wp2_with fail
          go_region
          clear qn qg e0 e1 e2 d0 d1 d2
          go_wp2_with fail
          go_roundw
          case rel => exact ⟨j + 1, by omega, by go_num, Lib.hid ⟨HB.out, HN.out⟩⟩
          case measure => simp [intOf]; omega
        | false =>
          obtain rfl : r = false := Hn2.out.2 (fun e => by have := Hz.out.2 e; cases this)
          clear Hn2
          go_wp2_with fail
          go_region
          clear qn qg e0 e1 e2 d0 d1 d2
          go_wp2_with fail
          go_ret
          exact ⟨rfl, HB.out⟩
      · obtain rfl : r = true := by
          rw [← Hr.out]
          refine decide_eq_true (List.ext_getElem Hlen.out fun i h1 h2 => hR.out.2 i h1 h2 (by omega))
        have HB := Lib.hid hR.out.1
        clear hR
        go_wp2_with fail
        go_ret
        exact ⟨rfl, HB.out⟩
  · have dl : ((us.length : Int) != (vs.length : Int)) = true := by simp; omega
    obtain rfl : r = false := by rw [← Hr.out]; exact decide_eq_false (fun e => hlen (by rw [e]))
    clear hlen
    go_enter Tryd.func47, Tryd.ntmps47
    go_wp2_with fail
    go_ret
    exact ⟨rfl, Below.refl _ w⟩
set_option maxHeartbeats 3200000 in
theorem ref04_Same {w : World} {S T : Nat → Prop} {v u : Value} {us vs : List Int} (h : ChsRd w S v us) (k : ChsRd w T u vs) (hl : us.length ≤ 1000000) (hl2 : vs.length ≤ 1000000) :
    Calls Tryd.prog 48 #[v, u] w fun x w' => x = .returned (.bool (decide (us = vs))) ∧ Below w.heap.size w w' := by
  obtain ⟨p, c, rfl⟩ := h.slice
  obtain ⟨q, d, rfl⟩ := k.slice
  have H := Lib.hid h
  have K := Lib.hid k
  obtain ⟨r, hr⟩ : ∃ x, decide (us = vs) = x := ⟨_, rfl⟩
  rw [hr]
  have Hr := Lib.hid hr
  clear h k hr
  by_cases hlen : us.length = vs.length
  · have Hlen := Lib.hid hlen
    have dl : ((us.length : Int) != (vs.length : Int)) = false := by simp; omega
    clear hlen
    go_enter Tryd.func48, Tryd.ntmps48
    go_wp2_with fail
    go_loopw [5] (fun iv wr => ∃ j : Nat, j ≤ us.length ∧ iv = .int .i64 j ∧ Hid (Below w.heap.size w wr ∧ ∀ i (hi : i < us.length) (hi2 : i < vs.length), i < j → us[i] = vs[i])) (fun iv _ => us.length - (intOf iv).toNat)
    case atStart => exact ⟨0, Nat.zero_le _, rfl, Lib.hid ⟨Below.refl _ w, fun i _ _ h => absurd h (by omega)⟩⟩
    case round =>
      obtain ⟨j, hj, rfl, hR⟩ := hrel
      by_cases hlt : j < us.length
      · have hlt2 : j < vs.length := by have := Hlen.out; omega
        have hlti : (j : Int) < (us.length : Int) := by omega
        obtain ⟨g, off, rfl, hc, e0⟩ := (H.out.below hR.out.1).at_ hlt
        obtain ⟨g', off', rfl, hd, d0⟩ := (K.out.below hR.out.1).at_ hlt2
        have Hn := Lib.hid (show ∀ (x y : _), us[j] = x → vs[j] = y → (x = y → ∀ i (hi : i < us.length) (hi2 : i < vs.length), i < j + 1 → us[i] = vs[i]) ∧ (x ≠ y → r = false) from fun x y hx hy => ⟨fun e i hi hi2 hij => by
            rcases Nat.lt_succ_iff_lt_or_eq.1 hij with h | rfl
            · exact hR.out.2 i hi hi2 h
            · rw [hx, hy, e], fun hne => by
            rw [← Hr.out]
            refine decide_eq_false (fun e => hne ?_)
            subst e
            rw [← hx, ← hy]⟩)
        have Hn2 := Lib.hid (Hn.out _ _ rfl rfl)
        generalize us[j]'hlt = x at *
        generalize vs[j]'hlt2 = y at *
        have HB := Lib.hid hR.out.1.drew
        clear Hn hR
        obtain ⟨z, hz⟩ : ∃ z, (x == y) = z := ⟨_, rfl⟩
        have Hz := Lib.hid (show z = true ↔ x = y from by
          rw [← hz]
          simp)
        have hz2 : (x != y) = !z := by rw [← hz]; rfl
        cases z with
        | true =>
          have HN := Lib.hid (Hn2.out.1 (Hz.out.1 rfl))
          clear Hn2
          go_wp2_with fail
          go_region
          clear e0 d0 hz hz2
          go_wp2_with fail
          go_roundw
          case rel => exact ⟨j + 1, by omega, by go_num, Lib.hid ⟨HB.out, HN.out⟩⟩
          case measure => simp [intOf]; omega
        | false =>
          obtain rfl : r = false := Hn2.out.2 (fun e => by have := Hz.out.2 e; cases this)
          clear Hn2
          go_wp2_with fail
          go_region
          clear e0 d0 hz hz2
          go_wp2_with fail
          go_ret
          exact ⟨rfl, HB.out⟩
      · obtain rfl : r = true := by
          rw [← Hr.out]
          refine decide_eq_true (List.ext_getElem Hlen.out fun i h1 h2 => hR.out.2 i h1 h2 (by omega))
        have HB := Lib.hid hR.out.1
        clear hR
        go_wp2_with fail
        go_ret
        exact ⟨rfl, HB.out⟩
  · have dl : ((us.length : Int) != (vs.length : Int)) = true := by simp; omega
    obtain rfl : r = false := by rw [← Hr.out]; exact decide_eq_false (fun e => hlen (by rw [e]))
    clear hlen
    go_enter Tryd.func48, Tryd.ntmps48
    go_wp2_with fail
    go_ret
    exact ⟨rfl, Below.refl _ w⟩
set_option maxHeartbeats 3200000 in
theorem ref07_Same {w : World} {S T : Nat → Prop} {v u : Value} {us vs : List Ut} (h : UtsRd w S v us) (k : UtsRd w T u vs) (hl : us.length ≤ 1000000) (hl2 : vs.length ≤ 1000000) :
    Calls Tryd.prog 77 #[v, u] w fun x w' => x = .returned (.bool (decide (us = vs))) ∧ Below w.heap.size w w' := by
  obtain ⟨p, c, rfl⟩ := h.slice
  obtain ⟨q, d, rfl⟩ := k.slice
  have H := Lib.hid h
  have K := Lib.hid k
  obtain ⟨r, hr⟩ : ∃ x, decide (us = vs) = x := ⟨_, rfl⟩
  rw [hr]
  have Hr := Lib.hid hr
  clear h k hr
  by_cases hlen : us.length = vs.length
  · have Hlen := Lib.hid hlen
    have dl : ((us.length : Int) != (vs.length : Int)) = false := by simp; omega
    clear hlen
    go_enter Tryd.func77, Tryd.ntmps77
    go_wp2_with fail
    go_loopw [5] (fun iv wr => ∃ j : Nat, j ≤ us.length ∧ iv = .int .i64 j ∧ Hid (Below w.heap.size w wr ∧ ∀ i (hi : i < us.length) (hi2 : i < vs.length), i < j → us[i] = vs[i])) (fun iv _ => us.length - (intOf iv).toNat)
    case atStart => exact ⟨0, Nat.zero_le _, rfl, Lib.hid ⟨Below.refl _ w, fun i _ _ h => absurd h (by omega)⟩⟩
    case round =>
      obtain ⟨j, hj, rfl, hR⟩ := hrel
      by_cases hlt : j < us.length
      · have hlt2 : j < vs.length := by have := Hlen.out; omega
        have hlti : (j : Int) < (us.length : Int) := by omega
        obtain ⟨g, off, rfl, hc, e0, e1, e2, e3, e4⟩ := (H.out.below hR.out.1).at_ hlt
        obtain ⟨g', off', rfl, hd, d0, d1, d2, d3, d4⟩ := (K.out.below hR.out.1).at_ hlt2
        have Hn := Lib.hid (show ∀ (x y : _), us[j] = x → vs[j] = y → (x = y → ∀ i (hi : i < us.length) (hi2 : i < vs.length), i < j + 1 → us[i] = vs[i]) ∧ (x ≠ y → r = false) from fun x y hx hy => ⟨fun e i hi hi2 hij => by
            rcases Nat.lt_succ_iff_lt_or_eq.1 hij with h | rfl
            · exact hR.out.2 i hi hi2 h
            · rw [hx, hy, e], fun hne => by
            rw [← Hr.out]
            refine decide_eq_false (fun e => hne ?_)
            subst e
            rw [← hx, ← hy]⟩)
        have Hn2 := Lib.hid (Hn.out _ _ rfl rfl)
        generalize us[j]'hlt = x at *
        generalize vs[j]'hlt2 = y at *
        have HB := Lib.hid hR.out.1.drew
        clear Hn hR
        obtain ⟨x0, x1, x2, x3, x4⟩ := x
        obtain ⟨y0, y1, y2, y3, y4⟩ := y
        simp only at e0 e1 e2 e3 e4 d0 d1 d2 d3 d4
        have qn := fun w => run_neq_unit w x0 x1 x2 x3 x4 y0 y1 y2 y3 y4
        have qg := guard_unit
        obtain ⟨z, hz⟩ : ∃ z, (x0 == y0 && (x1 == y1 && (x2 == y2 && (x3 == y3 && x4 == y4)))) = z := ⟨_, rfl⟩
        rw [hz] at qn
        have Hz := Lib.hid (show z = true ↔ (⟨x0, x1, x2, x3, x4⟩ : Ut) = ⟨y0, y1, y2, y3, y4⟩ from by
          rw [← hz]
          simp [Ut.mk.injEq])
        clear hz
        cases z with
        | true =>
          have HN := Lib.hid (Hn2.out.1 (Hz.out.1 rfl))
          clear Hn2
          go_wp2_with fail
          go_region
          clear qn qg e0 e1 e2 e3 e4 d0 d1 d2 d3 d4
          go_wp2_with fail
          go_roundw
          case rel => exact ⟨j + 1, by omega, by go_num, Lib.hid ⟨HB.out, HN.out⟩⟩
          case measure => simp [intOf]; omega
        | false =>
          obtain rfl : r = false := Hn2.out.2 (fun e => by have := Hz.out.2 e; cases this)
          clear Hn2
          go_wp2_with fail
          go_region
          clear qn qg e0 e1 e2 e3 e4 d0 d1 d2 d3 d4
          go_wp2_with fail
          go_ret
          exact ⟨rfl, HB.out⟩
      · obtain rfl : r = true := by
          rw [← Hr.out]
          refine decide_eq_true (List.ext_getElem Hlen.out fun i h1 h2 => hR.out.2 i h1 h2 (by omega))
        have HB := Lib.hid hR.out.1
        clear hR
        go_wp2_with fail
        go_ret
        exact ⟨rfl, HB.out⟩
  · have dl : ((us.length : Int) != (vs.length : Int)) = true := by simp; omega
    obtain rfl : r = false := by rw [← Hr.out]; exact decide_eq_false (fun e => hlen (by rw [e]))
    clear hlen
    go_enter Tryd.func77, Tryd.ntmps77
    go_wp2_with fail
    go_ret
    exact ⟨rfl, Below.refl _ w⟩
theorem op_eq (x y : Opr) : decide (x = y) = ((x.cl == y.cl && x.rq == y.rq) && ((x.un == y.un) && decide (x.us = y.us))) := by
  obtain ⟨a, b, c, d⟩ := x
  obtain ⟨a', b', c', d'⟩ := y
  rw [Bool.eq_iff_iff]
  simp only [decide_eq_true_eq, Bool.and_eq_true, beq_iff_eq, Opr.mk.injEq]
  exact ⟨fun ⟨h1, h2, h3, h4⟩ => ⟨⟨h1, h2⟩, h4, h3⟩, fun ⟨⟨h1, h2⟩, h4, h3⟩ => ⟨h1, h2, h3, h4⟩⟩
set_option maxHeartbeats 3200000 in
theorem cmd_op {w : World} {S T : Nat → Prop} {x y : Opr} {p q : Option Addr} {c d : Nat} (h : UtsRd w S (.slice p x.us.length c) x.us) (k : UtsRd w T (.slice q y.us.length d) y.us) (hl : x.us.length ≤ 1000000) (hl2 : y.us.length ≤ 1000000) :
    Calls Tryd.prog 44 #[.agg #[.int .u32 x.cl, .int .u64 x.rq, .slice p x.us.length c, .bool x.un], .agg #[.int .u32 y.cl, .int .u64 y.rq, .slice q y.us.length d, .bool y.un]] w fun e w' => e = .returned (.bool (decide (x = y))) ∧ Below w.heap.size w w' := by
  obtain ⟨r, hr⟩ : ∃ z, decide (x = y) = z := ⟨_, rfl⟩
  rw [hr]
  rw [op_eq] at hr
  obtain ⟨x0, x1, us, xb⟩ := x
  obtain ⟨y0, y1, vs, yb⟩ := y
  simp only at h k hl hl2 hr ⊢
  have Hr := Lib.hid hr
  clear hr
  have hb1 := (Below.refl w.heap.size w).alloc (Nat.le_refl _) (.cells #[.int .u32 x0, .int .u64 x1, .slice p us.length c, .bool xb] 46)
  have hb2 := hb1.alloc hb1.size (.cells #[.int .u32 y0, .int .u64 y1, .slice q vs.length d, .bool yb] 46)
  have hb12 := (Below.refl (w.alloc (.cells #[.int .u32 x0, .int .u64 x1, .slice p us.length c, .bool xb] 46)).heap.size (w.alloc (.cells #[.int .u32 x0, .int .u64 x1, .slice p us.length c, .bool xb] 46))).alloc (Nat.le_refl _) (.cells #[.int .u32 y0, .int .u64 y1, .slice q vs.length d, .bool yb] 46)
  have HK := Lib.hid ((Blk.new w 46 #[.int .u32 x0, .int .u64 x1, .slice p us.length c, .bool xb]).below hb12)
  have HL := Lib.hid (Blk.new (w.alloc (.cells #[.int .u32 x0, .int .u64 x1, .slice p us.length c, .bool xb] 46)) 46 #[.int .u32 y0, .int .u64 y1, .slice q vs.length d, .bool yb])
  have HB := Lib.hid hb2
  have H := Lib.hid (h.below hb2)
  have K := Lib.hid (k.below hb2)
  clear h k hb1 hb2 hb12
  obtain ⟨z, hz⟩ : ∃ z, (x0 == y0 && x1 == y1) = z := ⟨_, rfl⟩
  have Hr2 := Lib.hid (show (z && ((xb == yb) && decide (us = vs))) = r from by rw [← hz]; exact Hr.out)
  have qn := fun w => run_eql_id w x0 x1 y0 y1
  have qg := guard_id
  rw [hz] at qn
  clear hz Hr
  cases z with
  | false =>
    obtain rfl : r = false := Hr2.out.symm
    go_enter Tryd.func44, Tryd.ntmps44
    go_wp2_with fail
    go_ret
    exact ⟨rfl, HB.out⟩
  | true =>
    obtain ⟨zb, hzb⟩ : ∃ z, (xb == yb) = z := ⟨_, rfl⟩
    have Hr3 := Lib.hid (show (zb && decide (us = vs)) = r from by rw [← hzb]; exact Hr2.out)
    clear Hr2
    cases zb with
    | false =>
      obtain rfl : r = false := Hr3.out.symm
      go_enter Tryd.func44, Tryd.ntmps44
      go_wp2_with fail
      go_ret
      exact ⟨rfl, HB.out⟩
    | true =>
      go_enter Tryd.func44, Tryd.ntmps44
      go_wp2_with fail
      refine (slices_Equal_U H.out K.out hl hl2).mono ?_
      rw [show decide (us = vs) = r from Hr3.out]
      rintro _ w2 ⟨rfl, hb⟩
      have HB2 := Lib.hid (HB.out.trans (hb.mono HB.out.size))
      clear hb qn qg
      go_wp2_with fail
      go_ret
      exact ⟨rfl, HB2.out⟩
set_option maxHeartbeats 3200000 in
theorem ref_op {w : World} {S T : Nat → Prop} {x y : Opr} {p q : Option Addr} {c d : Nat} (h : UtsRd w S (.slice p x.us.length c) x.us) (k : UtsRd w T (.slice q y.us.length d) y.us) (hl : x.us.length ≤ 1000000) (hl2 : y.us.length ≤ 1000000) :
    Calls Tryd.prog 49 #[.agg #[.int .u32 x.cl, .int .u64 x.rq, .slice p x.us.length c, .bool x.un], .agg #[.int .u32 y.cl, .int .u64 y.rq, .slice q y.us.length d, .bool y.un]] w fun e w' => e = .returned (.bool (decide (x = y))) ∧ Below w.heap.size w w' := by
  obtain ⟨r, hr⟩ : ∃ z, decide (x = y) = z := ⟨_, rfl⟩
  rw [hr]
  rw [op_eq] at hr
  obtain ⟨x0, x1, us, xb⟩ := x
  obtain ⟨y0, y1, vs, yb⟩ := y
  simp only at h k hl hl2 hr ⊢
  have Hr := Lib.hid hr
  clear hr
  have hb1 := (Below.refl w.heap.size w).alloc (Nat.le_refl _) (.cells #[.int .u32 x0, .int .u64 x1, .slice p us.length c, .bool xb] 46)
  have hb2 := hb1.alloc hb1.size (.cells #[.int .u32 y0, .int .u64 y1, .slice q vs.length d, .bool yb] 46)
  have hb12 := (Below.refl (w.alloc (.cells #[.int .u32 x0, .int .u64 x1, .slice p us.length c, .bool xb] 46)).heap.size (w.alloc (.cells #[.int .u32 x0, .int .u64 x1, .slice p us.length c, .bool xb] 46))).alloc (Nat.le_refl _) (.cells #[.int .u32 y0, .int .u64 y1, .slice q vs.length d, .bool yb] 46)
  have HK := Lib.hid ((Blk.new w 46 #[.int .u32 x0, .int .u64 x1, .slice p us.length c, .bool xb]).below hb12)
  have HL := Lib.hid (Blk.new (w.alloc (.cells #[.int .u32 x0, .int .u64 x1, .slice p us.length c, .bool xb] 46)) 46 #[.int .u32 y0, .int .u64 y1, .slice q vs.length d, .bool yb])
  have HB := Lib.hid hb2
  have H := Lib.hid (h.below hb2)
  have K := Lib.hid (k.below hb2)
  clear h k hb1 hb2 hb12
  obtain ⟨z, hz⟩ : ∃ z, (x0 == y0 && x1 == y1) = z := ⟨_, rfl⟩
  have Hr2 := Lib.hid (show (z && ((xb == yb) && decide (us = vs))) = r from by rw [← hz]; exact Hr.out)
  have qn := fun w => run_eql_id w x0 x1 y0 y1
  have qg := guard_id
  rw [hz] at qn
  clear hz Hr
  cases z with
  | false =>
    obtain rfl : r = false := Hr2.out.symm
    go_enter Tryd.func49, Tryd.ntmps49
    go_wp2_with fail
    go_ret
    exact ⟨rfl, HB.out⟩
  | true =>
    obtain ⟨zb, hzb⟩ : ∃ z, (xb == yb) = z := ⟨_, rfl⟩
    have Hr3 := Lib.hid (show (zb && decide (us = vs)) = r from by rw [← hzb]; exact Hr2.out)
    clear Hr2
    cases zb with
    | false =>
      obtain rfl : r = false := Hr3.out.symm
      go_enter Tryd.func49, Tryd.ntmps49
      go_wp2_with fail
      go_ret
      exact ⟨rfl, HB.out⟩
    | true =>
      go_enter Tryd.func49, Tryd.ntmps49
      go_wp2_with fail
      refine (ref07_Same H.out K.out hl hl2).mono ?_
      rw [show decide (us = vs) = r from Hr3.out]
      rintro _ w2 ⟨rfl, hb⟩
      have HB2 := Lib.hid (HB.out.trans (hb.mono HB.out.size))
      clear hb qn qg
      go_wp2_with fail
      go_ret
      exact ⟨rfl, HB2.out⟩
end Go.Proofs.YtciojggkcmdjiaaDoor
