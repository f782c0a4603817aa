/-
  The reference's Read and Text: the contracts. No condition but bounds far below what memory bears.
-/
import Derived.Test.YtelaiafpfaohfaaRefD
namespace Go.Proofs.Ytelaiafpfaohfaa
open Go.RowKit
set_option linter.unusedSimpArgs false
set_option linter.unusedVariables false

theorem rf_read_no {w : World} {S : Nat → Prop} {b : Nat} {r : Rf} {pos n : Int} (h : RfAt w S b r) (hl : r.L.length ≤ 1000000) (hp : -9223372036854775808 ≤ pos ∧ pos ≤ 9223372036854775807) (hn : -9223372036854775808 ≤ n ∧ n ≤ 9223372036854775807) (hi : inText r.L.length pos n = false) :
    Calls Try.prog 17 #[.pointer (some ⟨b, 0, none⟩), .int .i64 pos, .int .i64 n] w fun e w' => e = .returned (.tuple #[.slice none 0 0, .int .i64 30]) ∧ w = w' := by
  have hr := rf_right h hl hp hn
  rw [hi] at hr
  have Hr := Lib.hid hr
  clear hr h
  go_enter Try.func17, Try.ntmps17
  go_wp2_with fail
  refine Hr.out.mono ?_
  rintro e w' ⟨rfl, rfl⟩
  go_wp2_with fail
  go_ret2
  exact ⟨rfl, rfl⟩

set_option maxHeartbeats 3200000 in
theorem rf_read_in {w : World} {S : Nat → Prop} {b pos n : Nat} {r : Rf} (h : RfAt w S b r) (hl : r.L.length ≤ 100000) (hi : pos + n ≤ r.L.length) :
    Calls Try.prog 17 #[.pointer (some ⟨b, 0, none⟩), .int .i64 pos, .int .i64 n] w (TbRead w (((r.L.drop pos).take n).map On.c, 0)) := by
  have hr := rf_right (pos := (pos : Int)) (n := (n : Int)) h (by omega) (by omega) (by omega)
  rw [show inText r.L.length pos n = true from Tb.inText_iff.2 ⟨pos, n, rfl, rfl, hi⟩] at hr
  obtain ⟨p, c, hB, hL, hn, hc, hcm⟩ := h.form
  obtain ⟨L, ad⟩ := r
  simp only at hB hL hn hc hcm hr hi hl ⊢
  have a0 : w.cell? ⟨b, 0, none⟩ = some (.slice p L.length c) := hB.cell 0
  have HL := Lib.hid hL
  have Hr := Lib.hid hr
  have hb := hB.lt
  have hncc : (L.length : Int) ≤ (c : Int) := by omega
  obtain ⟨e1, he1⟩ : ∃ e, e = pos + n := ⟨_, rfl⟩
  have hw : IntKind.i64.wrap ((pos : Int) + (n : Int)) = (e1 : Int) := by rw [IntKind.wrap_i64]; omega
  have He1 := Lib.hid he1
  have hel : e1 ≤ L.length := by omega
  have hpe : pos ≤ e1 := by omega
  unfold maxLen at hcm
  have hno : n ≤ 100000 := by omega
  clear hB hL hn h hr he1 hi
  go_enter Try.func17, Try.ntmps17
  go_wp2_with fail
  refine Hr.out.mono ?_
  rintro e w' ⟨rfl, rfl⟩
  go_wp2_with fail
  go_loopw [8, 9] (fun out i wr => ∃ j : Nat, pos ≤ j ∧ j ≤ e1 ∧ i = .int .i64 j ∧ Hid (CharOwn wr w.heap.size out (((L.drop pos).take (j - pos)).map On.c) ∧ Below w.heap.size w wr)) (fun _ i _ => e1 - (intOf i).toNat)
  case atStart => exact ⟨pos, Nat.le_refl _, hpe, rfl, Lib.hid ⟨by rw [Nat.sub_self]; exact World.ownsRow_nil _ _ _ _, Below.refl _ _⟩⟩
  case round =>
    obtain ⟨j, hj0, hj, rfl, hR⟩ := hrel
    by_cases hlt : j < e1
    · have hjl : j < L.length := by omega
      obtain ⟨ho, hX⟩ := hR.out
      obtain ⟨b2, off, he, _, _, hcell⟩ := Rd.addr HL.out (by omega)
      subst he
      obtain ⟨x0, -, -⟩ := on_at hjl
      have x0 : w.cell? ⟨b2, off + j * 3, none⟩ = some (.int .i32 L[j].c) := hcell _ _ x0
      have ltb := lt_of_cell x0
      obtain ⟨hc', -⟩ := bcell hX
      have a0' : wr.cell? ⟨b, 0, none⟩ = some (.slice (some ⟨b2, off, none⟩) L.length c) := (hc' b 0 hb).trans a0
      rw [← hc' b2 _ ltb] at x0
      have Hts := Lib.hid (show ((L.drop pos).take (j + 1 - pos)).map On.c = ((L.drop pos).take (j - pos)).map On.c ++ [L[j].c] from by
        rw [show j + 1 - pos = (j - pos) + 1 from by omega, take_snoc _ _ (by rw [List.length_drop]; omega), List.map_append, List.getElem_drop]
        simp [show pos + (j - pos) = j from by omega])
      have hol : (((L.drop pos).take (j - pos)).map On.c).length ≤ 100000 := by rw [List.length_map, List.length_take, List.length_drop]; omega
      generalize (L[j]'hjl).c = x at *
      generalize ((L.drop pos).take (j - pos)).map On.c = out1 at *
      have HO := Lib.hid (own_alloc ho (.cells #[.int .i32 x] 29))
      have HX := Lib.hid (hX.alloc hX.size (.cells #[.int .i32 x] 29))
      have HN := Lib.hid (one_char (w := wr) (base := 0) x (Nat.zero_le _)).rd
      clear ho hX hR hcell hc'
      go_wp2_with (at_builtin; go_loud (refine wpList_append_C rfl (.tmp 23) (.tmp 32) rfl w.heap.size _ out1 [x] _ rfl HO.out (some ⟨wr.heap.size, 0, none⟩) 1 rfl HN.out NilOk.some (by simp; omega) HX.out.size ?_; intro v' w' ho2 hg2; have HO2 := Lib.hid ho2; have HX2 := Lib.hid (HX.out.grown hg2 HX.out.size (fun j hj => (HO.out.lt j hj).1)); clear ho2 hg2))
      go_roundw
      case rel => exact ⟨j + 1, by omega, by omega, by go_num, by rw [Hts.out]; exact Lib.hid ⟨HO2.out, HX2.out⟩⟩
      case measure => simp [intOf] <;> omega
    · obtain rfl : j = e1 := by omega
      obtain ⟨ho, hX⟩ := hR.out
      have HO := Lib.hid (show CharOwn wr w.heap.size _ (((L.drop pos).take n).map On.c) from by rw [show j - pos = n from by have := He1.out; omega] at ho; exact ho)
      have HX := Lib.hid hX
      clear ho hX hR
      go_wp2_with fail
      go_ret2
      exact ⟨_, rfl, HO.out, HX.out⟩
theorem rf_read {w : World} {S : Nat → Prop} {b : Nat} {r : Rf} {pos n : Int} (h : RfAt w S b r) (hl : r.L.length ≤ 100000) (hp : -9223372036854775808 ≤ pos ∧ pos ≤ 9223372036854775807) (hn : -9223372036854775808 ≤ n ∧ n ≤ 9223372036854775807) :
    Calls Try.prog 17 #[.pointer (some ⟨b, 0, none⟩), .int .i64 pos, .int .i64 n] w (TbRead w (r.read pos n)) := by
  cases hi : inText r.L.length pos n with
  | true =>
    obtain ⟨p, k, rfl, rfl, hk⟩ := Tb.inText_iff.1 hi
    have e : r.read (p : Int) (k : Int) = (((r.L.drop p).take k).map On.c, 0) := by
      unfold Rf.read
      rw [if_pos hi]
      simp
    rw [e]
    exact rf_read_in h hl hk
  | false =>
    have e : r.read pos n = ([], 30) := by unfold Rf.read; rw [hi]; rfl
    rw [e]
    refine (rf_read_no h (by omega) hp hn hi).mono ?_
    rintro e w' ⟨rfl, rfl⟩
    exact ⟨_, rfl, World.ownsRow_nil _ _ _ _, Below.refl _ _⟩
theorem rf_text {w : World} {S : Nat → Prop} {b : Nat} {r : Rf} (h : RfAt w S b r) (hl : r.L.length ≤ 100000) :
    Calls Try.prog 20 #[.pointer (some ⟨b, 0, none⟩)] w (Texts w r.text) := by
  have Hr := Lib.hid (rf_read_in (pos := 0) (n := r.L.length) h hl (by omega))
  obtain ⟨p, c, hB, -, -, -, -⟩ := h.form
  have a0 : w.cell? ⟨b, 0, none⟩ = some (.slice p r.L.length c) := hB.cell 0
  have Ht := Lib.hid (show (((r.L.drop 0).take r.L.length).map On.c) = r.text from by simp [Rf.text])
  clear hB h
  go_enter Try.func20, Try.ntmps20
  go_wp2_with fail
  refine Hr.out.mono ?_
  rintro e w1 ⟨v, rfl, ho, hX⟩
  have HO := Lib.hid ho
  have HX := Lib.hid hX
  clear ho hX
  go_wp2_with fail
  go_ret
  exact ⟨_, rfl, by have h := HO.out; rw [Ht.out] at h; exact h, HX.out⟩
end Go.Proofs.Ytelaiafpfaohfaa
