/-
  cmd.row: its contract (slices.ContainsFunc over units).
-/
import Derived.Test.YtciojggkcmdjiaaDoorUnit15
namespace Go.Proofs.YtciojggkcmdjiaaDoor
open Go.RowKit
set_option linter.unusedSimpArgs false
set_option linter.unusedVariables false

set_option maxHeartbeats 1600000 in
theorem index_bad {w : World} {S : Nat → Prop} {v : Value} {us : List Ut} (h : UtsRd w S v us) (hl : us.length ≤ 1000000) :
    Calls Tryd.prog 87 #[v, .func (.func 74) #[] #[]] w fun x w' => (∃ i : Int, x = .returned (.int .i64 i) ∧ decide (0 ≤ i) = us.any badU) ∧ Below w.heap.size w w' := by
  obtain ⟨p, c, rfl⟩ := h.slice
  have H := Lib.hid h
  clear h
  go_enter Tryd.func87, Tryd.ntmps87
  go_wp2_with fail
  go_loopw [8] (fun iv wr => ∃ k : Nat, k ≤ us.length ∧ iv = .int .i64 k ∧ Hid (Below w.heap.size w wr ∧ (us.take k).any badU = false)) (fun iv _ => us.length - (intOf iv).toNat)
  case atStart => exact ⟨0, Nat.zero_le _, rfl, Lib.hid ⟨Below.refl _ w, rfl⟩⟩
  case round =>
    obtain ⟨k, hk, rfl, hR⟩ := hrel
    by_cases hlt : k < us.length
    · obtain ⟨g, off, rfl, hc, e0, e1, e2, e3, e4⟩ := (H.out.below hR.out.1).at_ hlt
      have Htk := Lib.hid (show us.take (k + 1) = us.take k ++ [us[k]] from List.take_succ_eq_append_getElem hlt)
      have Hin := Lib.hid (show us[k] ∈ us from List.getElem_mem hlt)
      generalize us[k]'hlt = u at *
      have hu : Value.agg #[.int .i64 u.kind, .int .i64 u.pos, .int .i32 u.chr, .int .u32 u.cl, .int .u64 u.rq] = utVal u := rfl
      have Hu := Lib.hid hu
      clear hu
      go_wp2_with fail
      rw [Hu.out]
      refine row_1.mono ?_
      rintro _ w2 ⟨rfl, hb⟩
      have HB2 := Lib.hid (hR.out.1.trans (hb.mono hR.out.1.size))
      have Hn := Lib.hid hR.out.2
      clear hb hR e0 e1 e2 e3 e4
      cases hbd : badU u with
      | true =>
        have HA := Lib.hid (show us.any badU = true from List.any_eq_true.2 ⟨u, Hin.out, hbd⟩)
        clear hbd
        go_wp2_with fail
        go_ret
        exact ⟨⟨k, rfl, by rw [HA.out]; simp⟩, HB2.out⟩
      | false =>
        have HN2 := Lib.hid (show (us.take (k + 1)).any badU = false from by rw [Htk.out, List.any_append, Hn.out, List.any_cons, hbd]; rfl)
        clear hbd
        go_wp2_with fail
        go_roundw
        case rel => exact ⟨k + 1, by omega, by go_num, Lib.hid ⟨HB2.out, HN2.out⟩⟩
        case measure => simp [intOf]; omega
    · obtain rfl : k = us.length := by omega
      have hn := hR.out.2
      rw [List.take_length] at hn
      have Hn := Lib.hid hn
      have HB := Lib.hid hR.out.1
      clear hn hR
      go_wp2_with fail
      go_ret
      exact ⟨⟨-1, rfl, by rw [Hn.out]; rfl⟩, HB.out⟩
theorem contains_bad {w : World} {S : Nat → Prop} {v : Value} {us : List Ut} (h : UtsRd w S v us) (hl : us.length ≤ 1000000) :
    Calls Tryd.prog 73 #[v, .func (.func 74) #[] #[]] w fun x w' => x = .returned (.bool (us.any badU)) ∧ Below w.heap.size w w' := by
  have H := Lib.hid h
  clear h
  go_enter Tryd.func73, Tryd.ntmps73
  go_wp2_with fail
  refine (index_bad H.out hl).mono ?_
  rintro _ w2 ⟨⟨i, rfl, hi⟩, hb⟩
  have HB := Lib.hid hb
  have Hi := Lib.hid hi
  clear hb hi
  go_wp2_with fail
  go_ret
  exact ⟨by rw [← Hi.out]; rfl, HB.out⟩
theorem cmd_row {w : World} {S : Nat → Prop} {v : Value} {us : List Ut} (h : UtsRd w S v us) (hl : us.length ≤ 1000000) :
    Calls Tryd.prog 42 #[v] w fun x w' => x = .returned (.bool (rowB us)) ∧ Below w.heap.size w w' := by
  obtain ⟨p, c, rfl⟩ := h.slice
  have H := Lib.hid h
  clear h
  obtain ⟨r, hr⟩ : ∃ x, rowB us = x := ⟨_, rfl⟩
  rw [hr]
  by_cases h6 : us.length ≤ 256
  · have d0 : decide ((us.length : Int) ≤ 256) = true := by simp; omega
    have Hr := Lib.hid (show r = !us.any badU by rw [← hr]; unfold rowB; rw [decide_eq_true h6]; rfl)
    clear hr h6
    go_enter Tryd.func42, Tryd.ntmps42
    go_wp2_with fail
    refine (contains_bad H.out hl).mono ?_
    rintro _ w2 ⟨rfl, hb⟩
    have HB := Lib.hid hb
    clear hb
    go_wp2_with fail
    go_ret
    exact ⟨by rw [Hr.out]; rfl, HB.out⟩
  · have d0 : decide ((us.length : Int) ≤ 256) = false := by simp; omega
    obtain rfl : r = false := by rw [← hr]; unfold rowB; rw [decide_eq_false h6]; rfl
    clear hr h6
    go_enter Tryd.func42, Tryd.ntmps42
    go_wp2_with fail
    go_ret
    exact ⟨rfl, Below.refl _ w⟩
end Go.Proofs.YtciojggkcmdjiaaDoor
