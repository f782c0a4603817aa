/-
  PieceKnown's walk: it returns true. No condition.
-/
import Derived.Test.YtelaiafpfaohfaaAwake5
namespace Go.Proofs.Ytelaiafpfaohfaa
open Go.RowKit
set_option linter.unusedSimpArgs false
set_option linter.unusedVariables false

theorem flatten_nil {w : World} : Calls Try.prog 19 #[.pointer none] w fun e w' => (∃ v, e = .returned v) ∧ w = w' := by
  go_enter Try.func19, Try.ntmps19
  go_wp2_with fail
  refine tab_none0.mono ?_
  rintro e w' ⟨rfl, rfl⟩
  go_wp2_with fail
  go_end0
  exact ⟨⟨_, rfl⟩, rfl⟩
theorem text_nil {w : World} : Calls Try.prog 24 #[.pointer none] w fun e w' => e = .returned (.slice none 0 0) ∧ w = w' := by
  go_enter Try.func24, Try.ntmps24
  go_wp2_with fail
  refine tab_Len0.mono ?_
  rintro e w' ⟨rfl, rfl⟩
  go_wp2_with fail
  refine read_nil.mono ?_
  rintro e w' ⟨rfl, rfl⟩
  go_wp2_with fail
  go_ret
  exact ⟨rfl, rfl⟩
theorem TabAt.blk {w : World} {b : Nat} {f s : List Int} {ps : List Pc} {n : Nat} (h : TabAt w b f s ps n) : ∃ x y z, Blk w b 63 #[x, y, z, .int .i64 (n : Int), .bool true] := by
  obtain ⟨x, y, z, hB, _⟩ := h
  exact ⟨x, y, z, hB⟩

set_option maxHeartbeats 6400000 in
theorem known5 {w : World} : Calls Try.prog 6 #[] w fun e w' => e = .returned (.bool true) ∧ Below w.heap.size w w' := by
  go_enter Try.func6, Try.ntmps6
  go_wp2_with fail
  refine awake5.mono ?_
  rintro e w1 ⟨rfl, hX⟩
  have HX1 := Lib.hid hX
  clear hX
  go_wp2_with fail
  refine (new_any (l := []) (Rd.nil w1 (fun _ => True) 1) (by decide)).mono ?_
  rintro e w2 ⟨b, rfl, hb, hT, hX⟩
  have HT2 := Lib.hid (show TabAt w2 b [] [] [] 0 from hT)
  have HX2 := Lib.hid (HX1.out.trans (hX.mono HX1.out.size))
  have Hb := Lib.hid (Nat.le_trans HX1.out.size hb)
  clear hb hT hX HX1
  go_wp2_with fail
  refine (chars_at (l := [120]) (by decide) (by decide)).mono ?_
  rintro e w3 ⟨q1, d1, rfl, H1⟩
  have HT3 := Lib.hid (HT2.out.below H1.out.2)
  have HX3 := Lib.hid (HX2.out.trans (H1.out.2.mono HX2.out.size))
  have HB3 := Lib.hid HT3.out.blk
  clear HT2 HX2
  go_wp2_with fail
  obtain ⟨x, y, z, hB⟩ := HB3.out
  refine (insert_far hB (by decide) (by decide) (by decide)).mono ?_
  rintro e w' ⟨rfl, rfl⟩
  clear hB
  go_wp2_with fail
  obtain ⟨x, y, z, hB⟩ := HB3.out
  refine (insert_empty (n := 0) hB (by decide) (by decide) (by decide)).mono ?_
  rintro e w' ⟨rfl, rfl⟩
  clear hB
  go_wp2_with fail
  obtain ⟨x, y, z, hB⟩ := HB3.out
  refine (delete_no hB (by decide) (by decide) (by decide) (by decide)).mono ?_
  rintro e w' ⟨rfl, rfl⟩
  clear hB
  go_wp2_with fail
  obtain ⟨x, y, z, hB⟩ := HB3.out
  refine (delete_zero hB (by decide) (by decide) (by decide) (by decide) rfl).mono ?_
  rintro e w' ⟨rfl, rfl⟩
  clear hB
  go_wp2_with fail
  refine (chars_at (l := [120, 121]) (by decide) (by decide)).mono ?_
  rintro e w4 ⟨q2, d2, rfl, H2⟩
  have HT4 := Lib.hid (HT3.out.below H2.out.2)
  have HX4 := Lib.hid (HX3.out.trans (H2.out.2.mono HX3.out.size))
  clear HT3 HX3 HB3
  go_wp2_with fail
  refine (insert_any (pos := 0) (l := [120, 121]) HT4.out (by unfold PcsIn; decide) (by decide) (by decide) (by decide) (by decide) (by decide) H2.out.1.rd (NilOk.own H2.out.1) (by decide) (by decide)).mono ?_
  rintro e w5 ⟨rfl, hT, hE⟩
  have HB5 := Lib.hid (show ∃ x y z, Blk w5 b 63 #[x, y, z, .int .i64 ((2 : Nat) : Int), .bool true] from hT.blk)
  have HX5 := Lib.hid (Ext.from HX4.out hE (fun k hk => by subst hk; exact Hb.out))
  clear HT4 HX4 hT hE
  go_wp2_with fail
  obtain ⟨x, y, z, hB⟩ := HB5.out
  refine (read_no hB (by decide) (by decide) (by decide) (by decide)).mono ?_
  rintro e w' ⟨rfl, rfl⟩
  clear hB
  go_wp2_with fail
  obtain ⟨x, y, z, hB⟩ := HB5.out
  refine (read_no hB (by decide) (by decide) (by decide) (by decide)).mono ?_
  rintro e w' ⟨rfl, rfl⟩
  clear hB
  go_wp2_with fail
  obtain ⟨x, y, z, hB⟩ := HB5.out
  refine (delete_no hB (by decide) (by decide) (by decide) (by decide)).mono ?_
  rintro e w' ⟨rfl, rfl⟩
  clear hB
  go_wp2_with fail
  obtain ⟨x, y, z, hB⟩ := HB5.out
  refine (insert_neg hB (by decide) (by decide)).mono ?_
  rintro e w' ⟨rfl, rfl⟩
  clear hB
  go_wp2_with fail
  refine flatten_nil.mono ?_
  rintro e w' ⟨⟨_, rfl⟩, rfl⟩
  go_wp2_with fail
  refine read_nil.mono ?_
  rintro e w' ⟨rfl, rfl⟩
  go_wp2_with fail
  obtain ⟨x, y, z, hB⟩ := HB5.out
  refine (tab_Len hB).mono ?_
  rintro e w' ⟨rfl, rfl⟩
  clear hB
  go_wp2_with fail
  refine insert_nil.mono ?_
  rintro e w' ⟨rfl, rfl⟩
  go_wp2_with fail
  refine delete_nil.mono ?_
  rintro e w' ⟨rfl, rfl⟩
  go_wp2_with fail
  refine tab_Len0.mono ?_
  rintro e w' ⟨rfl, rfl⟩
  go_wp2_with fail
  refine text_nil.mono ?_
  rintro e w' ⟨rfl, rfl⟩
  go_wp2_with fail
  refine pieces_nil.mono ?_
  rintro e w' ⟨rfl, rfl⟩
  go_wp2_with fail
  refine copy_nil.mono ?_
  rintro e w' ⟨rfl, rfl⟩
  go_wp2_with fail
  refine (insert_unmade (Blk.new _ _ _)).mono ?_
  rintro e w' ⟨rfl, rfl⟩
  go_wp2_with fail
  go_ret
  exact ⟨rfl, HX5.out.alloc HX5.out.size _⟩
end Go.Proofs.Ytelaiafpfaohfaa
