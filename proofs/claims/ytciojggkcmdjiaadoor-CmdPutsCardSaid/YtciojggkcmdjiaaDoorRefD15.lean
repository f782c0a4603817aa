/-
  The reference's Whole and Decode (copybookref04): their contracts. No condition but a length far below what memory bears.
-/
import Derived.Test.YtciojggkcmdjiaaDoorRefF15
namespace Go.Proofs.YtciojggkcmdjiaaDoor
open Go.RowKit
set_option linter.unusedSimpArgs false
set_option linter.unusedVariables false

theorem wholeB_step (b : List UInt8) : wholeB b = if (firstB b).2 = 0 then 0 else (firstB b).2 + wholeB (b.drop (firstB b).2) := by
  conv => lhs; unfold wholeB
  split <;> rfl
set_option maxHeartbeats 3200000 in
set_option maxRecDepth 100000 in
theorem ref04_Whole {w : World} {S : Nat → Prop} {v : Value} {b : List UInt8} (h : CmdRd w S v b) (hb : b.length ≤ 1000000) : Calls Tryd.prog 82 #[v] w fun x w' => x = .returned (.int .i64 (wholeB b : Nat)) ∧ Below w.heap.size w w' := by
  obtain ⟨p, c, rfl⟩ := h.slice
  have hcb : b.length ≤ c := by obtain ⟨_, _, _, h, h1, _⟩ := h; injection h with _ _ h; omega
  have hcm : c ≤ maxLen := by obtain ⟨_, _, _, h, _, h1, _⟩ := h; injection h with _ _ h; omega
  unfold maxLen at hcm
  have H := Lib.hid h
  clear h
  obtain ⟨n, hn⟩ : ∃ x, wholeB b = x := ⟨_, rfl⟩
  rw [hn]
  have Hn := Lib.hid hn
  clear hn
  go_enter Tryd.func82, Tryd.ntmps82
  go_wp2_with fail
  go_loopw [3] (fun av wr => ∃ a : Nat, a ≤ b.length ∧ av = .int .i64 a ∧ Hid (Below w.heap.size w wr ∧ n = a + wholeB (b.drop a))) (fun av _ => b.length - (intOf av).toNat)
  case atStart => exact ⟨0, Nat.zero_le _, rfl, Lib.hid ⟨Below.refl _ w, by rw [← Hn.out]; simp⟩⟩
  case round =>
    obtain ⟨a, ha, rfl, hR⟩ := hrel
    have hac : (a : Int) ≤ (c : Int) := by omega
    have hal : (a : Int) ≤ (b.length : Int) := by omega
    have hcut := CmdRd.cut (Rd.below H.out (by decide) hR.out.1) ha
    have hfn := firstB_n (b.drop a)
    rw [List.length_drop] at hfn
    have HE := Lib.hid hR.out.2
    have HB := Lib.hid hR.out.1
    clear hR
    have hcc : (c = a) = True ∨ (c = a) = False := by by_cases h : c = a <;> simp [h]
    have Hcut := Lib.hid hcut
    clear hcut
    obtain ⟨k, hk⟩ : ∃ x, (firstB (b.drop a)).2 = x := ⟨_, rfl⟩
    rw [hk] at hfn
    have Hk := Lib.hid hk
    clear hk
    rcases hcc with hcc | hcc
    all_goals
      have hcut := Hcut.out
      simp only [hcc, if_true, if_false, Nat.mul_one, Option.map_some] at hcut
      go_wp2_with fail
      refine (ref04_first hcut).mono ?_
      rintro _ w2 ⟨⟨x, rfl⟩, hb2⟩
      rw [Hk.out]
      have HB2 := Lib.hid (HB.out.trans (hb2.mono HB.out.size))
      clear hb2 hcut
      by_cases hk0 : k = 0
      · subst hk0
        have He := Lib.hid (show n = a by rw [HE.out, wholeB_step, if_pos Hk.out]; rfl)
        go_wp2_with fail
        go_ret
        exact ⟨by rw [He.out]; rfl, HB2.out⟩
      · have dk : ((k : Int) == 0) = false := by simpa using hk0
        have e : n = (a + k) + wholeB (b.drop (a + k)) := by
          rw [HE.out, wholeB_step, if_neg (by rw [Hk.out]; exact hk0), Hk.out, List.drop_drop]
          omega
        have He := Lib.hid e
        clear e
        go_wp2_with fail
        go_roundw
        case rel => exact ⟨a + k, by omega, by go_num, Lib.hid ⟨HB2.out, He.out⟩⟩
        case measure => simp [intOf]; omega
set_option maxHeartbeats 3200000 in
set_option maxRecDepth 100000 in
theorem ref04_Decode {w : World} {S : Nat → Prop} {v : Value} {b : List UInt8} (h : CmdRd w S v b) (hb : b.length ≤ 1000000) : Calls Tryd.prog 62 #[v] w fun x w' => (∃ s, x = .returned (.tuple #[s, .int .i64 (decB b)])) ∧ Below w.heap.size w w' := by
  obtain ⟨i0, hi, hz0, hz1, hz2⟩ := info_parts infoC
  obtain ⟨p, c, rfl⟩ := h.slice
  have hcb : b.length ≤ c := by obtain ⟨_, _, _, h, h1, _⟩ := h; injection h with _ _ h; omega
  have hcm : c ≤ maxLen := by obtain ⟨_, _, _, h, _, h1, _⟩ := h; injection h with _ _ h; omega
  unfold maxLen at hcm
  have H := Lib.hid h
  clear h
  obtain ⟨e, he⟩ : ∃ x, decB b = x := ⟨_, rfl⟩
  rw [he]
  have He := Lib.hid he
  clear he
  go_enter Tryd.func62, Tryd.ntmps62
  go_wp2_with fail
  refine (ref04_Whole H.out hb).mono ?_
  rintro _ w1 ⟨rfl, hb1⟩
  obtain ⟨n, hn⟩ : ∃ x, wholeB b = x := ⟨_, rfl⟩
  have hnl := wholeB_le b
  rw [hn] at hnl
  rw [hn]
  have HB1 := Lib.hid hb1
  have Hn := Lib.hid hn
  clear hb1 hn
  by_cases h0 : n < b.length
  · have d0 : decide ((n : Int) < (b.length : Int)) = true := by simpa using h0
    obtain rfl : e = 21 := by rw [← He.out]; unfold decB; rw [Hn.out, if_pos h0]
    go_wp2_with fail
    go_ret2
    exact ⟨⟨_, rfl⟩, HB1.out⟩
  · have d0 : decide ((n : Int) < (b.length : Int)) = false := by simpa using h0
    obtain rfl : e = 0 := by rw [← He.out]; unfold decB; rw [Hn.out, if_neg h0]
    obtain rfl : n = b.length := by omega
    clear h0
    go_wp2_with fail
    clear d0
    go_loopw [4, 5] (fun tv av wr => ∃ (a m : Nat) (q : Option Addr) (d : Nat) (cs : List Value), a ≤ b.length ∧ m ≤ a ∧ tv = .slice q m d ∧ av = .int .i64 a ∧ Hid (wr.ownsRow w.heap.size 76 1 (.slice q m d) m cs ∧ Below w.heap.size w wr ∧ wholeB (b.drop a) = b.length - a)) (fun _ av _ => b.length - (intOf av).toNat)
    case atStart => exact ⟨0, 0, none, 0, [], Nat.zero_le _, Nat.le_refl _, rfl, rfl, Lib.hid ⟨World.ownsRow_nil _ _ _ _, HB1.out, by rw [List.drop_zero, Hn.out]; rfl⟩⟩
    case round =>
      obtain ⟨a, m, q, d, cs, ha, hma, rfl, rfl, hR⟩ := hrel
      by_cases hal : a < b.length
      · have dal : decide ((a : Int) < (b.length : Int)) = true := by simpa using hal
        have hac : (a : Int) ≤ (c : Int) := by omega
        have hcut := CmdRd.cut (Rd.below H.out (by decide) hR.out.2.1) ha
        have hfn := firstB_n (b.drop a)
        rw [List.length_drop] at hfn
        obtain ⟨k, hk⟩ : ∃ x, (firstB (b.drop a)).2 = x := ⟨_, rfl⟩
        rw [hk] at hfn
        have hw := hR.out.2.2
        rw [wholeB_step, hk] at hw
        have hk0 : k ≠ 0 := by rintro rfl; rw [if_pos rfl] at hw; omega
        rw [if_neg hk0, List.drop_drop] at hw
        have Hw := Lib.hid (show wholeB (b.drop (a + k)) = b.length - (a + k) by omega)
        have Hk := Lib.hid hk
        have Hcut := Lib.hid hcut
        clear hk hcut hw
        obtain hc1 | hc1 : ((c = a) = True) ∨ ((c = a) = False) := (Decidable.em (c = a)).elim (fun h => .inl (eq_true h)) (fun h => .inr (eq_false h))
        all_goals
          have hcut := Hcut.out
          simp only [hc1, if_true, if_false, Nat.mul_one] at hcut
          have HC := Lib.hid hcut
          clear hcut
          go_wp2_with fail
          refine (ref04_first HC.out).mono ?_
          rw [Hk.out]
          rintro _ w1 ⟨⟨r1, rfl⟩, hb1⟩
          have HB1 := Lib.hid (hR.out.2.1.trans (hb1.mono hR.out.2.1.size))
          have HO1 := Lib.hid (own_below hR.out.1 hb1)
          clear hb1 hR HC hc1 dal
          go_wp2_with (at_builtin; refine wpList_append_own _ rfl _ _ 37 rfl w.heap.size 76 i0 _ 1 4 Tryd.underlying37 hi hz0 hz1 hz2 rfl (by decide) _ m cs rfl (own_alloc HO1.out _) ⟨w1.heap.size, 0, none⟩ 1 1 [.int .i32 r1] rfl rfl ?a1 ?a2 ?a3 ?a4 ?a5 ?_)
          case a1 => exact news_of_block (heap_alloc_new _ _)
          case a2 => intro u hu; simp at hu; subst hu; rfl
          case a3 => unfold maxLen; omega
          case a4 => omega
          case a5 => have := HB1.out.size; simp; omega
          intro v5 w5 hown5 hgrow5 _
          obtain ⟨p5, c5, rfl⟩ := own_slice hown5
          have hba := (Below.refl w1.heap.size w1).alloc (Nat.le_refl _) (.cells #[.int .i32 r1] 76)
          have HB5 := Lib.hid (show Below w.heap.size w w5 from (HB1.out.trans (hba.mono HB1.out.size)).grown hgrow5 (by have := HB1.out.size; simp; omega) (fun k hk => (HO1.out.lt k hk).1))
          have HO5 := Lib.hid hown5
          clear hown5 hgrow5 hba HB1 HO1
          go_wp2_with fail
          go_roundw
          case rel => exact ⟨a + k, m + 1, p5, c5, _, by omega, by omega, rfl, by go_num, Lib.hid ⟨HO5.out, HB5.out, Hw.out⟩⟩
          case measure => simp [intOf]; omega
      · obtain rfl : a = b.length := by omega
        have HB := Lib.hid hR.out.2.1
        clear hR hal
        go_wp2_with fail
        go_ret2
        exact ⟨⟨_, rfl⟩, HB.out⟩
end Go.Proofs.YtciojggkcmdjiaaDoor
