/-
  Writer.Str, Writer.Out, and the writer that is none: contracts.
-/
import Derived.Test.YtgmlgdfgooacbaaWri
import Derived.Lib.ConvBytes
namespace Go.Proofs.Ytgmlgdfgooacbaa
open Go.RowKit
set_option linter.unusedSimpArgs false
set_option linter.unusedVariables false

theorem bytesWorld_below (w : World) (s : ByteArray) : Below w.heap.size w (Lib.bytesWorld w 5 s) :=
  ⟨rfl, rfl, rfl, by rw [Lib.bytesWorld_size]; omega, fun k hk => Lib.bytesWorld_at_old w _ s k hk⟩

theorem str_rd (w : World) (l : List UInt8) (h : l.length ≤ maxLen) : CmdRd (Lib.bytesWorld w 5 ⟨l.toArray⟩) (fun k => k = w.heap.size) (.slice (some ⟨w.heap.size, 0, none⟩) l.length (grownCap w l.length 0 5)) l := by
  refine ⟨by rw [bcells_len, Nat.mul_one], _, _, rfl, grownCap_ge _ _ _ _, grownCap_le_maxLen _ _ _ _ h, fun _ => ⟨_, 0, rfl, rfl, fun j u hu => ?_⟩⟩
  have hj : j < l.length := by have := (List.getElem?_eq_some_iff.1 hu).1; rw [bcells_len] at this; exact this
  have hc := Lib.bytesWorld_cell w 5 ⟨l.toArray⟩ j (by simpa [ByteArray.size] using hj)
  rw [Nat.zero_add, hc, ← hu]
  simp [bcells, List.getElem?_map, List.getElem?_eq_getElem hj]

theorem run_str (w : World) (l : List UInt8) : (convert 9 23 (.string ⟨l.toArray⟩)).run Try.prog w = .ok (.slice (some ⟨w.heap.size, 0, none⟩) l.length (grownCap w l.length 0 5)) (Lib.bytesWorld w 5 ⟨l.toArray⟩) := by
  have h := Lib.run_convert_string_bytes (P := Try.prog) w 9 23 5 ⟨l.toArray⟩ Try.underlying9 Try.underlying23 Try.underlying5
  have e : (ByteArray.mk l.toArray).size = l.length := by simp [ByteArray.size]
  rw [e] at h
  exact h

set_option maxHeartbeats 800000 in
theorem wr_Str {w : World} {lo hi a : Nat} {bs b : List UInt8} (h : WrAt w lo hi a bs) (hb : bs.length + b.length + 10 ≤ 200000000000000) :
    Calls Try.prog 16 #[.pointer (some ⟨a, 0, none⟩), .string ⟨b.toArray⟩] w fun e w' => e = .returned (.tuple #[]) ∧ WrAt w' w.heap.size w'.heap.size a (bs ++ lenBytes b) ∧ Ext (· = a) w w' := by
  have hlt := h.lt
  have kc := fun w => run_str w b
  have H := Lib.hid h
  clear h
  go_enter Try.func16, Try.ntmps16
  go_wp2_with fail
  clear kc
  have hX0 := bytesWorld_below w ⟨b.toArray⟩
  refine (wr_Bytes (S := fun k => k = w.heap.size) (H.out.below hX0) (str_rd w b (by unfold maxLen; omega)) NilOk.some (by show ¬ a = w.heap.size; omega) hb).mono ?_
  rintro e w' ⟨rfl, hW, hX⟩
  have HW := Lib.hid (hW.mono hX0.size (Nat.le_refl _))
  have HX := Lib.hid ((Ext.of_below (fun x => x = a) hX0).trans hX)
  clear hW hX hX0
  go_wp2_with fail
  exact bodyPost_end (results_none rfl _ _ _) rfl ⟨rfl, HW.out, HX.out⟩

set_option maxHeartbeats 800000 in
theorem wr_Out {w : World} {lo hi a : Nat} {bs : List UInt8} (h : WrAt w lo hi a bs) (hb : bs.length ≤ 200000000000000) :
    Calls Try.prog 17 #[.pointer (some ⟨a, 0, none⟩)] w fun e w' => ∃ p c, e = .returned (.slice p bs.length c) ∧ CmdOwn w' w.heap.size (.slice p bs.length c) bs ∧ Below w.heap.size w w' := by
  obtain ⟨v, hB, hO⟩ := h
  obtain ⟨p, c, rfl⟩ := hO.1.slice
  obtain ⟨a0, f0, hz⟩ := hB.c1
  have HO := Lib.hid hO
  clear hB hO
  go_enter Try.func17, Try.ntmps17
  go_wp2_with fail
  refine (bytes_Clone HO.out.1.rd (bcells_one _) hb).mono ?_
  rintro x w1 ⟨p1, c1, rfl, ho, hX⟩
  have Ho := Lib.hid ho
  have HX := Lib.hid hX
  clear ho hX
  go_wp2_with fail
  go_ret
  exact ⟨p1, c1, rfl, Ho.out, HX.out⟩

theorem wr_Out_nil {w : World} : Calls Try.prog 17 #[.pointer none] w fun e w' => e = .returned (.slice none 0 0) ∧ w = w' := by
  go_enter Try.func17, Try.ntmps17
  go_wp2_with fail
  go_ret
  exact ⟨rfl, rfl⟩

theorem wr_Bytes_nil {w : World} {p : Option Addr} {n c : Nat} (hn : n ≤ 200000000000000) : Calls Try.prog 14 #[.pointer none, .slice p n c] w fun e w' => e = .returned (.tuple #[]) ∧ w = w' := by
  go_enter Try.func14, Try.ntmps14
  go_wp2_with fail
  refine wr_Num_nil.mono ?_
  rintro e w' ⟨rfl, rfl⟩
  go_wp2_with fail
  exact bodyPost_end (results_none rfl _ _ _) rfl ⟨rfl, rfl⟩

theorem wr_Str_nil {w : World} {b : List UInt8} (hn : b.length ≤ 200000000000000) : Calls Try.prog 16 #[.pointer none, .string ⟨b.toArray⟩] w fun e w' => e = .returned (.tuple #[]) ∧ Below w.heap.size w w' := by
  have kc := fun w => run_str w b
  go_enter Try.func16, Try.ntmps16
  go_wp2_with fail
  clear kc
  refine (wr_Bytes_nil hn).mono ?_
  rintro e w' ⟨rfl, rfl⟩
  go_wp2_with fail
  exact bodyPost_end (results_none rfl _ _ _) rfl ⟨rfl, bytesWorld_below w _⟩
end Go.Proofs.Ytgmlgdfgooacbaa
