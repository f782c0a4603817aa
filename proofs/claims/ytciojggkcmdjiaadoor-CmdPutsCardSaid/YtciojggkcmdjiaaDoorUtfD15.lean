/-
  utf.read, utf.Decode: their contracts, over the table that the program lays.
-/
import Derived.Test.YtciojggkcmdjiaaDoorUtfF15
namespace Go.Proofs.YtciojggkcmdjiaaDoor
open Go.RowKit
set_option linter.unusedSimpArgs false
set_option linter.unusedVariables false

theorem infoC : (Tryd.prog.info? 76).map (fun i => (i.zero, i.size, i.bytes)) = some (some (.int .i32 0), 1, 4) := by kernel_rfl
/-- How many bytes at the beginning are code points. -/
def wholeB (b : List UInt8) : Nat :=
  if h : (firstB b).2 = 0 then 0 else (firstB b).2 + wholeB (b.drop (firstB b).2)
termination_by b.length
decreasing_by
  have := (firstB_n b).1
  rw [List.length_drop]
  omega
theorem wholeB_le (b : List UInt8) : wholeB b ≤ b.length := by
  unfold wholeB
  split
  · exact Nat.zero_le _
  · rename_i h
    have h1 := wholeB_le (b.drop (firstB b).2)
    have := (firstB_n b).1
    rw [List.length_drop] at h1
    omega
termination_by b.length
decreasing_by
  have := (firstB_n b).1
  rw [List.length_drop]
  omega
/-- What Decode tells. -/
def decB (b : List UInt8) : Int := if wholeB b < b.length then 21 else 0
set_option maxHeartbeats 3200000 in
set_option maxRecDepth 100000 in
theorem utf_read {w : World} {S : Nat → Prop} {v : Value} {b : List UInt8} (hF : Forms w) (h : CmdRd w S v b) (hb : b.length ≤ 1000000) : Calls Tryd.prog 59 #[v] w fun x w' => (∃ s, x = .returned (.tuple #[s, .int .i64 (wholeB b : Nat)])) ∧ Below w.heap.size w w' := by
  obtain ⟨i0, hi, hz0, hz1, hz2⟩ := info_parts infoC
  obtain ⟨p, c, rfl⟩ := h.slice
  have hcb : b.length ≤ c := by obtain ⟨_, _, _, h, h1, _⟩ := h; injection h with _ _ h; omega
  have hcm : c ≤ maxLen := by obtain ⟨_, _, _, h, _, h1, _⟩ := h; injection h with _ _ h; omega
  unfold maxLen at hcm
  have H := Lib.hid h
  have HF := Lib.hid hF
  clear h hF
  obtain ⟨n, hn⟩ : ∃ x, wholeB b = x := ⟨_, rfl⟩
  rw [hn]
  have Hn := Lib.hid hn
  clear hn
  go_enter Tryd.func59, Tryd.ntmps59
  go_wp2_with fail
  go_loopw [4, 5] (fun tv av wr => ∃ (a m : Nat) (q : Option Addr) (d : Nat) (cs : List Value), a ≤ b.length ∧ m ≤ a ∧ tv = .slice q m d ∧ av = .int .i64 a ∧ Hid (wr.ownsRow w.heap.size 76 1 (.slice q m d) m cs ∧ Below w.heap.size w wr ∧ n = a + wholeB (b.drop a))) (fun _ av _ => b.length - (intOf av).toNat)
  case atStart => exact ⟨0, 0, none, 0, [], Nat.zero_le _, Nat.le_refl _, rfl, rfl, Lib.hid ⟨World.ownsRow_nil _ _ _ _, Below.refl _ w, by rw [← Hn.out]; simp⟩⟩
  case round =>
    obtain ⟨a, m, q, d, cs, ha, hma, rfl, rfl, hR⟩ := hrel
    have hac : (a : Int) ≤ (c : Int) := by omega
    have hcut := CmdRd.cut (Rd.below H.out (by decide) hR.out.2.1) ha
    have HF1 := Lib.hid (HF.out.below hR.out.2.1)
    have hfn := firstB_n (b.drop a)
    rw [List.length_drop] at hfn
    obtain ⟨r, hr⟩ : ∃ x, firstB (b.drop a) = x := ⟨_, rfl⟩
    rw [hr] at hfn
    have Hr := Lib.hid hr
    have Hw := Lib.hid (show wholeB (b.drop a) = if r.2 = 0 then 0 else r.2 + wholeB (b.drop (a + r.2)) from by
      conv => lhs; unfold wholeB
      rw [hr]
      split
      · rfl
      · rw [List.drop_drop])
    obtain hc1 | hc1 : ((c = a) = True) ∨ ((c = a) = False) := (Decidable.em (c = a)).elim (fun h => .inl (eq_true h)) (fun h => .inr (eq_false h))
    all_goals
      simp only [hc1, if_true, if_false, Nat.mul_one] at hcut
      have HC := Lib.hid hcut
      clear hcut hr
      go_wp2_with fail
      refine (utf_first HF1.out HC.out).mono ?_
      rw [Hr.out]
      rintro _ w1 ⟨rfl, hb1⟩
      have HB1 := Lib.hid (hR.out.2.1.trans (hb1.mono hR.out.2.1.size))
      have HO1 := Lib.hid (own_below hR.out.1 hb1)
      have Hna := Lib.hid hR.out.2.2
      obtain ⟨r1, r2⟩ := r
      simp only at hfn Hw
      clear hb1 hR HC hc1
      by_cases h0 : r2 = 0
      · subst h0
        have e : n = a := by rw [Hna.out, Hw.out]; simp
        have He := Lib.hid e
        clear e Hna Hw
        go_wp2_with fail
        go_ret2
        exact ⟨⟨.slice q m d, by rw [He.out]; rfl⟩, HB1.out⟩
      · have d0 : ((r2 : Int) == 0) = false := by simpa using h0
        have hna2 : n = a + r2 + wholeB (b.drop (a + r2)) := by rw [Hna.out, Hw.out, if_neg h0]; omega
        have Hna2 := Lib.hid hna2
        clear hna2 Hna Hw
        go_wp2_with (at_builtin; refine wpList_append_own _ rfl _ _ 37 rfl w.heap.size 76 i0 _ 1 4 Tryd.underlying37 hi hz0 hz1 hz2 rfl (by decide) _ m cs rfl (own_alloc HO1.out _) ⟨w1.heap.size, 0, none⟩ 1 1 [.int .i32 r1] rfl rfl ?a1 ?a2 ?a3 ?a4 ?a5 ?_)
        case a1 => exact news_of_block (heap_alloc_new _ _)
        case a2 => intro u hu; simp at hu; subst hu; rfl
        case a3 => unfold maxLen; omega
        case a4 => omega
        case a5 => have := HB1.out.size; simp; omega
        intro v5 w5 hown5 hgrow5 _
        obtain ⟨p5, c5, rfl⟩ := own_slice hown5
        have hba := (Below.refl w1.heap.size w1).alloc (Nat.le_refl _) (.cells #[.int .i32 r1] 76)
        have HB5 := Lib.hid (show Below w.heap.size w w5 from (HB1.out.trans (hba.mono HB1.out.size)).grown hgrow5 (by have := HB1.out.size; simp; omega) (fun k hk => (HO1.out.lt k hk).1))
        have HO5 := Lib.hid hown5
        clear hown5 hgrow5 hba HB1 HO1
        go_wp2_with fail
        go_roundw
        case rel => exact ⟨a + r2, m + 1, p5, c5, _, by omega, by omega, rfl, by go_num, Lib.hid ⟨HO5.out, HB5.out, Hna2.out⟩⟩
        case measure => simp [intOf]; omega
set_option maxHeartbeats 800000 in
theorem utf_Decode {w : World} {S : Nat → Prop} {v : Value} {b : List UInt8} (hF : Forms w) (h : CmdRd w S v b) (hb : b.length ≤ 1000000) : Calls Tryd.prog 28 #[v] w fun x w' => (∃ s, x = .returned (.tuple #[s, .int .i64 (decB b)])) ∧ Below w.heap.size w w' := by
  obtain ⟨p, c, rfl⟩ := h.slice
  have H := Lib.hid h
  have HF := Lib.hid hF
  clear h hF
  obtain ⟨e, he⟩ : ∃ x, decB b = x := ⟨_, rfl⟩
  rw [he]
  have He := Lib.hid he
  clear he
  go_enter Tryd.func28, Tryd.ntmps28
  go_wp2_with fail
  refine (utf_read HF.out H.out hb).mono ?_
  rintro _ w1 ⟨⟨s, rfl⟩, hb1⟩
  obtain ⟨n, hn⟩ : ∃ x, wholeB b = x := ⟨_, rfl⟩
  rw [hn]
  have HB1 := Lib.hid hb1
  have Hn := Lib.hid hn
  clear hb1 hn
  by_cases h0 : n < b.length
  · have d0 : decide ((n : Int) < (b.length : Int)) = true := by simpa using h0
    obtain rfl : e = 21 := by rw [← He.out]; unfold decB; rw [Hn.out, if_pos h0]
    go_wp2_with fail
    go_ret2
    exact ⟨⟨_, rfl⟩, HB1.out⟩
  · have d0 : decide ((n : Int) < (b.length : Int)) = false := by simpa using h0
    obtain rfl : e = 0 := by rw [← He.out]; unfold decB; rw [Hn.out, if_neg h0]
    go_wp2_with fail
    go_ret2
    exact ⟨⟨_, rfl⟩, HB1.out⟩
end Go.Proofs.YtciojggkcmdjiaaDoor
