/-
  piece.New, Text, Pieces: the contracts. No condition but bounds far below what memory bears.
-/
import Derived.Test.YtelaiafpfaohfaaIns
namespace Go.Proofs.Ytelaiafpfaohfaa
open Go.RowKit
set_option linter.unusedSimpArgs false
set_option linter.unusedVariables false

def newL (l : List Int) : List Pc := if l.length = 0 then [] else [⟨false, 0, l.length⟩]
/-- A new table. -/
def NewTab (w : World) (l : List Int) (e : Ending) (w' : World) : Prop := ∃ b, e = .returned (.pointer (some ⟨b, 0, none⟩)) ∧ w.heap.size ≤ b ∧ TabS w' (fun k => w.heap.size ≤ k ∧ k ≠ b) b l [] (newL l) l.length ∧ Below w.heap.size w w'

set_option maxHeartbeats 1600000 in
theorem new_any {w : World} {S : Nat → Prop} {v : Value} {l : List Int} (h : CharRd w S v l) (hn : l.length ≤ 1000000) :
    Calls Try.prog 10 #[v] w (NewTab w l) := by
  obtain ⟨pl, cl, rfl⟩ := Rd.slice h
  have Hc := Lib.hid (slices_Clone_C (S := S) (n := l.length) h (ccells_one l) (by omega))
  clear h
  by_cases h0 : l.length = 0
  · have hl : l = [] := List.eq_nil_of_length_eq_zero h0
    subst hl
    simp only [List.length_nil] at Hc ⊢
    go_enter Try.func10, Try.ntmps10
    go_wp2_with fail
    refine Hc.out.mono ?_
    rintro e w1 ⟨p1, c1, rfl, ho, hX⟩
    have hB := Blk.new w1 63 #[.slice p1 0 c1, .slice none 0 0, .slice none 0 0, .int .i64 (0 : Int), .bool true]
    have b3 : (w1.alloc (.cells #[.slice p1 0 c1, .slice none 0 0, .slice none 0 0, .int .i64 (0 : Int), .bool true] 63)).cell? ⟨w1.heap.size, 3, none⟩ = some (.int .i64 0) := hB.cell 3
    have HB := Lib.hid hB
    have HO := Lib.hid (own_alloc ho (.cells #[.slice p1 0 c1, .slice none 0 0, .slice none 0 0, .int .i64 (0 : Int), .bool true] 63))
    have HX := Lib.hid (hX.alloc hX.size (.cells #[.slice p1 0 c1, .slice none 0 0, .slice none 0 0, .int .i64 (0 : Int), .bool true] 63))
    have HZ := Lib.hid hX.size
    clear hB ho hX h0
    go_wp2_with fail
    go_ret
    refine ⟨_, rfl, HZ.out, ⟨_, _, _, HB.out, ?_, Rd.nil _ _ _, Rd.nil _ _ _, NilOk.own HO.out, NilOk.nil⟩, HX.out⟩
    have h := HO.out
    refine ⟨rfl, p1, c1, rfl, Nat.zero_le _, ?_, fun h => absurd h (by decide)⟩
    obtain ⟨_, _, _, hv, _, h5, _⟩ := Rd.of_own h
    injection hv with _ _ hv
    omega
  · have hpos : (0 : Int) < (l.length : Int) := by omega
    go_enter Try.func10, Try.ntmps10
    go_wp2_with fail
    refine Hc.out.mono ?_
    rintro e w1 ⟨p1, c1, rfl, ho, hX⟩
    have hB := Blk.new w1 63 #[.slice p1 l.length c1, .slice none 0 0, .slice none 0 0, .int .i64 (l.length : Int), .bool true]
    have b3 : (w1.alloc (.cells #[.slice p1 l.length c1, .slice none 0 0, .slice none 0 0, .int .i64 (l.length : Int), .bool true] 63)).cell? ⟨w1.heap.size, 3, none⟩ = some (.int .i64 (l.length : Int)) := hB.cell 3
    have HB := Lib.hid hB
    have HO := Lib.hid (own_alloc ho (.cells #[.slice p1 l.length c1, .slice none 0 0, .slice none 0 0, .int .i64 (l.length : Int), .bool true] 63))
    have HX := Lib.hid (hX.alloc hX.size (.cells #[.slice p1 l.length c1, .slice none 0 0, .slice none 0 0, .int .i64 (l.length : Int), .bool true] 63))
    have HZ := Lib.hid hX.size
    have HR := Lib.hid (show CharRd w1 (fun k => w.heap.size ≤ k ∧ k ≠ w1.heap.size) (.slice p1 l.length c1) l from Rd.weak (Rd.of_own ho) (fun k hk _ => ⟨hk.1, by have := hk.2; omega⟩) (by decide))
    have HW := Lib.hid hX
    clear hB ho hX
    go_wp2_with fail
    go_ret
    have hT := (Blk.new w1 63 #[.slice p1 l.length c1, .slice none 0 0, .slice (some ⟨w1.heap.size + 1, 0, none⟩) 1 1, .int .i64 (l.length : Int), .bool true]).alloc (.cells #[.bool false, .int .i64 ((0 : Nat) : Int), .int .i64 (l.length : Int)] 58)
    have hone := (one_pc_own (w := w1.alloc (.cells #[.slice p1 l.length c1, .slice none 0 0, .slice (some ⟨w1.heap.size + 1, 0, none⟩) 1 1, .int .i64 (l.length : Int), .bool true] 63)) (base := w1.heap.size + 1) ⟨false, 0, l.length⟩ (by simp)).rd
    have hone' : PcsRd _ (fun k => w.heap.size ≤ k ∧ k ≠ w1.heap.size) _ _ := Rd.weak hone (fun k hk _ => by have := hk.1; have := HZ.out; constructor <;> omega) (by decide)
    rw [show (w1.alloc (.cells #[.slice p1 l.length c1, .slice none 0 0, .slice (some ⟨w1.heap.size + 1, 0, none⟩) 1 1, .int .i64 (l.length : Int), .bool true] 63)).heap.size = w1.heap.size + 1 from by simp] at hone'
    have hsetc := Rd.alloc (Rd.alloc HR.out (by decide) (.cells #[.slice p1 l.length c1, .slice none 0 0, .slice (some ⟨w1.heap.size + 1, 0, none⟩) 1 1, .int .i64 (l.length : Int), .bool true] 63)) (by decide) (.cells #[.bool false, .int .i64 ((0 : Nat) : Int), .int .i64 (l.length : Int)] 58)
    have hnew : newL l = [⟨false, 0, l.length⟩] := if_neg h0
    refine ⟨_, rfl, HZ.out, ⟨_, _, _, hT, hsetc, Rd.nil _ _ _, by rw [hnew]; exact hone', NilOk.own HO.out, NilOk.nil⟩, ?_⟩
    have hx0 := HW.out.alloc HZ.out (.cells #[.slice p1 l.length c1, .slice none 0 0, .slice (some ⟨w1.heap.size + 1, 0, none⟩) 1 1, .int .i64 (l.length : Int), .bool true] 63)
    exact hx0.alloc hx0.size _
theorem NewTab.at {w : World} {l : List Int} {e : Ending} {w' : World} (h : NewTab w l e w') : ∃ b, e = .returned (.pointer (some ⟨b, 0, none⟩)) ∧ w.heap.size ≤ b ∧ TabAt w' b l [] (newL l) l.length ∧ Below w.heap.size w w' := by
  obtain ⟨b, he, hb, ⟨vf, vs, vp, hB, hf, hs, hp, hn⟩, hX⟩ := h
  exact ⟨b, he, hb, ⟨vf, vs, vp, hB, Rd.weak hf (fun _ h _ => h.2) (by decide), Rd.weak hs (fun _ h _ => h.2) (by decide), Rd.weak hp (fun _ h _ => h.2) (by decide), hn⟩, hX⟩
end Go.Proofs.Ytelaiafpfaohfaa
