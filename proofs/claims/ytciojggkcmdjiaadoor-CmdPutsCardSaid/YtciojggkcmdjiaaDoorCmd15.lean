/-
  cmd.units, cmd.mayCmd, slices.Equal over units: their contracts.
-/
import Derived.Test.YtciojggkcmdjiaaDoorWRead15
import Derived.Test.YtciojggkcmdjiaaDoorWeave15
import Derived.Test.YtciojggkcmdjiaaDoorUtfD15
import Derived.Test.YtciojggkcmdjiaaDoorEqU15
namespace Go.Proofs.YtciojggkcmdjiaaDoor
open Go.RowKit
set_option linter.unusedSimpArgs false
set_option linter.unusedVariables false

def rdUs (s : RS) : List Ut × RS := if rowB (rdRow s 256).1 = true then rdRow s 256 else ([], rdFail (rdRow s 256).2 5)
theorem rdUnits_len : ∀ (n : Nat) (s : RS) (acc : List Ut), (rdUnits n s acc).1.length ≤ n + acc.length
  | 0, s, acc => Nat.le_add_left _ _
  | n + 1, s, acc => by
    unfold rdUnits
    split
    · have := rdUnits_len n (rdUnit s).2 (acc ++ [(rdUnit s).1])
      rw [List.length_append, List.length_singleton] at this
      omega
    · simp
theorem rdRow_len (s : RS) (most : Int) : (rdRow s most).1.length ≤ most.toNat := by
  unfold rdRow
  have h1 := rdUnits_len (rdCount s most).1 (rdCount s most).2 []
  have h2 := rdUpto_le s most.toNat
  unfold rdCount at h1 ⊢
  simp only [List.length_nil] at h1
  omega
set_option maxHeartbeats 800000 in
theorem cmd_units {w : World} {lo a : Nat} {s : RS} (h : RdAt w lo a s) (hle : lo ≤ a) :
    Calls Tryd.prog 29 #[.pointer (some ⟨a, 0, none⟩)] w fun x w' => ∃ p c, x = .returned (.slice p (rdUs s).1.length c) ∧ UtsOwn w' w.heap.size (.slice p (rdUs s).1.length c) (rdUs s).1 ∧ RdAt w' lo a (rdUs s).2 ∧ Ext (· = a) w w' := by
  obtain ⟨res, hres⟩ : ∃ x, rdUs s = x := ⟨_, rfl⟩
  rw [hres]
  have Hres := Lib.hid hres
  have H := Lib.hid h
  clear hres h
  have hl := rdRow_len s 256
  obtain ⟨rw_, hrw⟩ : ∃ x, rdRow s 256 = x := ⟨_, rfl⟩
  rw [hrw] at hl
  obtain ⟨us, t⟩ := rw_
  have Hrw := Lib.hid hrw
  have hl2 : us.length ≤ 1000000 := by have : us.length ≤ (256 : Int).toNat := hl; omega
  clear hrw hl
  have Hl2 := Lib.hid hl2
  clear hl2
  go_enter Tryd.func29, Tryd.ntmps29
  go_wp2_with fail
  refine (weave_Read H.out hle (by decide)).mono ?_
  rw [Hrw.out]
  rintro _ w1 ⟨v, rfl, hO, hR, hE⟩
  obtain ⟨p, c, rfl⟩ : ∃ p c, v = .slice p us.length c := by obtain ⟨_, ho, _⟩ := hO; exact own_slice ho
  have HO := Lib.hid hO
  have HR := Lib.hid hR
  have HE := Lib.hid hE
  clear hO hR hE
  go_wp2_with fail
  refine (cmd_row HO.out.rd Hl2.out).mono ?_
  rintro _ w2 ⟨rfl, hb⟩
  have HO2 := Lib.hid (show UtsOwn w2 w.heap.size (.slice p us.length c) us from HO.out.ext (Ext.of_below (fun _ => False) hb) (fun _ _ => id))
  have HR2 := Lib.hid (HR.out.below hb)
  have HE2 := Lib.hid (HE.out.trans (Ext.of_below _ hb))
  clear hb HO HR HE
  cases hrow : rowB us with
  | true =>
    have HF := Lib.hid (show (us, t) = res from by rw [← Hres.out]; unfold rdUs; rw [Hrw.out]; simp only [hrow, if_true])
    clear hrow
    go_wp2_with fail
    go_ret
    rw [← HF.out]
    exact ⟨p, c, rfl, HO2.out, HR2.out, HE2.out⟩
  | false =>
    have HF := Lib.hid (show ([], rdFail t 5) = res from by rw [← Hres.out]; unfold rdUs; rw [Hrw.out]; simp only [hrow]; rfl)
    clear hrow
    go_wp2_with fail
    refine (rd_Fail (x := 5) HR2.out hle).mono ?_
    rintro _ w3 ⟨rfl, hR, hE⟩
    have HR3 := Lib.hid hR
    have HE3 := Lib.hid (HE2.out.trans hE)
    clear hR hE
    go_wp2_with fail
    go_ret
    rw [← HF.out]
    exact ⟨none, 0, rfl, ⟨[], World.ownsRow_nil _ _ _ _, Els.nil _ _⟩, HR3.out, HE3.out⟩
set_option maxHeartbeats 3200000 in
theorem slices_Equal_U {w : World} {S T : Nat → Prop} {v u : Value} {us vs : List Ut} (h : UtsRd w S v us) (k : UtsRd w T u vs) (hl : us.length ≤ 1000000) (hl2 : vs.length ≤ 1000000) :
    Calls Tryd.prog 31 #[v, u] w fun x w' => x = .returned (.bool (decide (us = vs))) ∧ Below w.heap.size w w' := by
  obtain ⟨p, c, rfl⟩ := h.slice
  obtain ⟨q, d, rfl⟩ := k.slice
  have H := Lib.hid h
  have K := Lib.hid k
  obtain ⟨r, hr⟩ : ∃ x, decide (us = vs) = x := ⟨_, rfl⟩
  rw [hr]
  have Hr := Lib.hid hr
  clear h k hr
  by_cases hlen : us.length = vs.length
  · have Hlen := Lib.hid hlen
    have dl : ((us.length : Int) != (vs.length : Int)) = false := by simp; omega
    clear hlen
    go_enter Tryd.func31, Tryd.ntmps31
    go_wp2_with fail
    go_loopw [13] (fun iv wr => ∃ j : Nat, j ≤ us.length ∧ iv = .int .i64 j ∧ Hid (Below w.heap.size w wr ∧ ∀ i (hi : i < us.length) (hi2 : i < vs.length), i < j → us[i] = vs[i])) (fun iv _ => us.length - (intOf iv).toNat)
    case atStart => exact ⟨0, Nat.zero_le _, rfl, Lib.hid ⟨Below.refl _ w, fun i _ _ h => absurd h (by omega)⟩⟩
    case round =>
      obtain ⟨j, hj, rfl, hR⟩ := hrel
      by_cases hlt : j < us.length
      · have hlt2 : j < vs.length := by have := Hlen.out; omega
        obtain ⟨g, off, rfl, hc, e0, e1, e2, e3, e4⟩ := (H.out.below hR.out.1).at_ hlt
        obtain ⟨g', off', rfl, hd, d0, d1, d2, d3, d4⟩ := (K.out.below hR.out.1).at_ hlt2
        have Hn := Lib.hid (show ∀ (x y : Ut), us[j] = x → vs[j] = y → (x = y → ∀ i (hi : i < us.length) (hi2 : i < vs.length), i < j + 1 → us[i] = vs[i]) ∧ (x ≠ y → r = false) from fun x y hx hy => ⟨fun e i hi hi2 hij => by
            rcases Nat.lt_succ_iff_lt_or_eq.1 hij with h | rfl
            · exact hR.out.2 i hi hi2 h
            · rw [hx, hy, e], fun hne => by
            rw [← Hr.out]
            refine decide_eq_false (fun e => hne ?_)
            subst e
            rw [← hx, ← hy]⟩)
        have Hn2 := Lib.hid (Hn.out _ _ rfl rfl)
        generalize us[j]'hlt = x at *
        generalize vs[j]'hlt2 = y at *
        have HB := Lib.hid hR.out.1.drew
        clear Hn hR
        obtain ⟨x0, x1, x2, x3, x4⟩ := x
        obtain ⟨y0, y1, y2, y3, y4⟩ := y
        simp only at e0 e1 e2 e3 e4 d0 d1 d2 d3 d4
        have qn := fun w => run_neq_unit w x0 x1 x2 x3 x4 y0 y1 y2 y3 y4
        have qg := guard_unit
        obtain ⟨z, hz⟩ : ∃ z, (x0 == y0 && (x1 == y1 && (x2 == y2 && (x3 == y3 && x4 == y4)))) = z := ⟨_, rfl⟩
        rw [hz] at qn
        have Hz := Lib.hid (show z = true ↔ (⟨x0, x1, x2, x3, x4⟩ : Ut) = ⟨y0, y1, y2, y3, y4⟩ from by
          rw [← hz]
          simp [Ut.mk.injEq])
        clear hz
        cases z with
        | true =>
          have HN := Lib.hid (Hn2.out.1 (Hz.out.1 rfl))
          clear Hn2
          go_wp2_with fail
          go_region
          clear qn qg e0 e1 e2 e3 e4 d0 d1 d2 d3 d4
          go_wp2_with fail
          go_roundw
          case rel => exact ⟨j + 1, by omega, by go_num, Lib.hid ⟨HB.out, HN.out⟩⟩
          case measure => simp [intOf]; omega
        | false =>
          obtain rfl : r = false := Hn2.out.2 (fun e => by have := Hz.out.2 e; cases this)
          clear Hn2
          go_wp2_with fail
          go_region
          clear qn qg e0 e1 e2 e3 e4 d0 d1 d2 d3 d4
          go_wp2_with fail
          go_ret
          exact ⟨rfl, HB.out⟩
      · obtain rfl : r = true := by
          rw [← Hr.out]
          refine decide_eq_true (List.ext_getElem Hlen.out fun i h1 h2 => hR.out.2 i h1 h2 (by omega))
        have HB := Lib.hid hR.out.1
        clear hR
        go_wp2_with fail
        go_ret
        exact ⟨rfl, HB.out⟩
  · have dl : ((us.length : Int) != (vs.length : Int)) = true := by simp; omega
    obtain rfl : r = false := by rw [← Hr.out]; exact decide_eq_false (fun e => hlen (by rw [e]))
    clear hlen
    go_enter Tryd.func31, Tryd.ntmps31
    go_wp2_with fail
    go_ret
    exact ⟨rfl, Below.refl _ w⟩
end Go.Proofs.YtciojggkcmdjiaaDoor
