/-
  piece.Table's Text and Pieces: the contracts. No condition but bounds far below what memory bears.
-/
import Derived.Test.YtelaiafpfaohfaaTabNew
namespace Go.Proofs.Ytelaiafpfaohfaa
open Go.RowKit
set_option linter.unusedSimpArgs false
set_option linter.unusedVariables false

/-- What Text leaves. -/
def Texts (w : World) (l : List Int) (e : Ending) (w' : World) : Prop := ∃ v, e = .returned v ∧ CharOwn w' w.heap.size v l ∧ Below w.heap.size w w'
theorem text_any {w : World} {S : Nat → Prop} {b : Nat} {f s : List Int} {ps : List Pc} {long : Nat} (h : TabS w S b f s ps long) (hin : PcsIn f s ps) (hf : f.length ≤ 1000000) (hs : s.length ≤ 1000000) (hps : ps.length ≤ 1000000) (ht : tot ps ≤ 1000000) (hl : long ≤ 1000000) :
    Calls Try.prog 24 #[.pointer (some ⟨b, 0, none⟩)] w (Texts w (readL f s ps 0 long)) := by
  have Hr := Lib.hid (read_any (pos := 0) (n := long) h hin hf hs hps ht hl (by omega))
  have Hl := Lib.hid (show ∃ vf vs vp, Blk w b 63 #[vf, vs, vp, .int .i64 (long : Int), .bool true] from by obtain ⟨vf, vs, vp, hB, _⟩ := h; exact ⟨vf, vs, vp, hB⟩)
  clear h hin
  go_enter Try.func24, Try.ntmps24
  go_wp2_with fail
  obtain ⟨vf, vs, vp, hB⟩ := Hl.out
  refine (tab_Len hB).mono ?_
  rintro e w' ⟨rfl, rfl⟩
  clear hB
  go_wp2_with fail
  refine Hr.out.mono ?_
  rintro e w1 ⟨v, rfl, ho, hX⟩
  have HO := Lib.hid ho
  have HX := Lib.hid hX
  clear ho hX
  go_wp2_with fail
  go_ret
  exact ⟨_, rfl, HO.out, HX.out⟩

/-- What Pieces leaves. -/
def PiecesLeft (w : World) (l : List Pc) (e : Ending) (w' : World) : Prop := ∃ v, e = .returned v ∧ PcsOwn w' w.heap.size v l ∧ Below w.heap.size w w'
theorem pieces_any {w : World} {S : Nat → Prop} {b : Nat} {f s : List Int} {ps : List Pc} {long : Nat} (h : TabS w S b f s ps long) (hps : ps.length ≤ 1000000) :
    Calls Try.prog 26 #[.pointer (some ⟨b, 0, none⟩)] w (PiecesLeft w ps) := by
  obtain ⟨vf, vs, vp, hB, hf', hs', hp, hnf, hns⟩ := h
  have Hno := Lib.hid (tab_none hB)
  have Hc := Lib.hid (slices_Clone_P (n := ps.length) hp (pcells_one ps) (by omega))
  have a2 : w.cell? ⟨b, 2, none⟩ = some vp := hB.cell 2
  clear hB hf' hs' hp hnf hns
  go_enter Try.func26, Try.ntmps26
  go_wp2_with fail
  refine Hno.out.mono ?_
  rintro e w' ⟨rfl, rfl⟩
  go_wp2_with fail
  refine Hc.out.mono ?_
  rintro e w1 ⟨p1, c1, rfl, ho, hX⟩
  have HO := Lib.hid ho
  have HX := Lib.hid hX
  clear ho hX
  go_wp2_with fail
  go_ret
  exact ⟨_, rfl, HO.out, HX.out⟩
end Go.Proofs.Ytelaiafpfaohfaa
