/-
  ChangeKnown: the walk. No condition. (Printed by wip/gen_known22.py.)
-/
import Derived.Test.YtgmekodfkhihiaaNone22
import Derived.LoopTactic
namespace Go.Proofs.Ytgmekodfkhihiaa
open Go.RowKit Go.Maps
set_option linter.unusedSimpArgs false
set_option linter.unusedVariables false

def k1 : List Bool := [true, false, false, false, false, false, false]
theorem jk_a : justB no7 k1 (1 / 2 + 1) = true := by decide +kernel
theorem ok_0 {n : Int} (h : n = 1 ∨ n = 3 ∨ n = 5 ∨ n = 7) : NumOk n 0 := ⟨h, by omega, by omega⟩
def pk3 : Pk := ⟨0, 3, 3, []⟩
theorem best3 : bestOf ((List.replicate 7 noPk).set 0 pk3) (whoL k1) = pk3 := by kernel_rfl
theorem packs3_ok : ∀ p ∈ (List.replicate 7 noPk).set 0 pk3, PkOk p := by
  intro p hp
  have e : (List.replicate 7 noPk).set 0 pk3 = [pk3, noPk, noPk, noPk, noPk, noPk, noPk] := rfl
  rw [e] at hp
  simp only [List.mem_cons, List.not_mem_nil, or_false] at hp
  rcases hp with rfl | rfl | rfl | rfl | rfl | rfl | rfl <;> first | exact noPk_ok | exact ⟨by decide +kernel, by decide, by decide⟩
theorem nil_rd (w : World) : EntsRd w (fun _ => False) (.slice none 0 0) [] := ⟨[], Rd.nil _ _ _, Els.nil _ _⟩
theorem fits_no : Fits [] := fun e h => by cases h

set_option maxHeartbeats 6400000 in
set_option maxRecDepth 100000 in
theorem known_walk {w : World} : Calls Try.prog 7 #[] w fun x w' => x = .returned (.bool true) ∧ Below w.heap.size w w' := by
  go_enter Try.func7, Try.ntmps7
  go_wp2_with fail
  have kZ : Blk (w.alloc (.cells zcs 75)) w.heap.size 75 zcs := Blk.new w _ _
  have hX := (Below.refl w.heap.size w).alloc (Nat.le_refl _) (.cells zcs 75)
  have KZ := Lib.hid kZ
  have HX := Lib.hid hX
  clear kZ hX
  generalize hW : w.alloc (.cells zcs 75) = W1 at *
  try unfold zcs zpcs at hW
  try simp only [hW]
  refine (none_Told (NoCh.nil _)).mono ?_
  rintro x _ ⟨rfl, rfl⟩
  go_wp2_with fail
  refine (none_Hand (NoCh.zero KZ.out)).mono ?_
  rintro x W2 ⟨rfl, hb⟩
  have KZ2 := Lib.hid (KZ.out.below hb)
  have HX2 := Lib.hid (HX.out.trans (hb.mono HX.out.size))
  clear hb KZ HX
  go_wp2_with fail
  refine (none_Best (NoCh.nil _)).mono ?_
  rintro x W3 ⟨rfl, hb⟩
  have KZ3 := Lib.hid (KZ2.out.below hb)
  have HX3 := Lib.hid (HX2.out.trans (hb.mono HX2.out.size))
  clear hb KZ2 HX2
  go_upto_region 6 with fail
  have hb := (Below.refl W3.heap.size W3).alloc (Nat.le_refl _) (.cells #[.int .u64 0, .int .u64 0, .int .u64 0, .slice none 0 0] 35)
  have KZ4 := Lib.hid (KZ3.out.below hb)
  have HX4 := Lib.hid (HX3.out.trans (hb.mono HX3.out.size))
  clear hb KZ3 HX3
  generalize W3.alloc (.cells #[.int .u64 0, .int .u64 0, .int .u64 0, .slice none 0 0] 35) = W4 at *
  go_wp2_with fail
  refine (none_Start (NoCh.nil _)).mono ?_
  rintro x _ ⟨rfl, rfl⟩
  go_wp2_with fail
  refine (none_View (NoCh.zero KZ4.out)).mono ?_
  rintro x _ ⟨rfl, rfl⟩
  go_wp2_with fail
  refine (none_Copy (NoCh.zero KZ4.out)).mono ?_
  rintro x _ ⟨rfl, rfl⟩
  clear KZ4
  go_wp2_with fail
  go_loopw [9] (fun i wr => ∃ j : Int, -1 ≤ j ∧ j ≤ 10 ∧ i = .int .i64 j ∧ Hid (Below w.heap.size w wr)) (fun i _ => (10 - intOf i).toNat)
  case atStart => exact ⟨-1, by omega, by omega, rfl, Lib.hid HX4.out⟩
  case round =>
    obtain ⟨j, hj0, hj1, rfl, HR⟩ := hrel
    clear HX4
    by_cases h9 : j ≤ 9
    · have hall : j = -1 ∨ j = 0 ∨ j = 1 ∨ j = 2 ∨ j = 3 ∨ j = 4 ∨ j = 5 ∨ j = 6 ∨ j = 7 ∨ j = 8 ∨ j = 9 := by omega
      clear hj0 hj1 h9
      rcases hall with rfl | rfl | rfl | rfl | rfl | rfl | rfl | rfl | rfl | rfl | rfl
      · go_wp2_with fail
        refine (ch_New_arg (n := -1) (me := 0) (by omega)).mono ?_
        rintro x Wn ⟨rfl, hb⟩
        have HN := Lib.hid (HR.out.trans (hb.mono HR.out.size))
        clear hb
        go_wp2_with fail
        go_roundw
        case rel => exact ⟨0, by omega, by omega, rfl, HN⟩
        case measure => decide
      · go_wp2_with fail
        refine (ch_New_arg (n := 0) (me := 0) (by omega)).mono ?_
        rintro x Wn ⟨rfl, hb⟩
        have HN := Lib.hid (HR.out.trans (hb.mono HR.out.size))
        clear hb
        go_wp2_with fail
        go_roundw
        case rel => exact ⟨1, by omega, by omega, rfl, HN⟩
        case measure => decide
      · go_wp2_with fail
        refine (ch_New (n := 1) (me := 0) (ok_0 (by omega))).mono ?_
        rintro x Wn ⟨cb, vb, g, rfl, -, -, -, -, hb⟩
        have HN := Lib.hid (HR.out.trans (hb.mono HR.out.size))
        clear hb
        go_wp2_with fail
        go_roundw
        case rel => exact ⟨2, by omega, by omega, rfl, HN⟩
        case measure => decide
      · go_wp2_with fail
        refine (ch_New_arg (n := 2) (me := 0) (by omega)).mono ?_
        rintro x Wn ⟨rfl, hb⟩
        have HN := Lib.hid (HR.out.trans (hb.mono HR.out.size))
        clear hb
        go_wp2_with fail
        go_roundw
        case rel => exact ⟨3, by omega, by omega, rfl, HN⟩
        case measure => decide
      · go_wp2_with fail
        refine (ch_New (n := 3) (me := 0) (ok_0 (by omega))).mono ?_
        rintro x Wn ⟨cb, vb, g, rfl, -, -, -, -, hb⟩
        have HN := Lib.hid (HR.out.trans (hb.mono HR.out.size))
        clear hb
        go_wp2_with fail
        go_roundw
        case rel => exact ⟨4, by omega, by omega, rfl, HN⟩
        case measure => decide
      · go_wp2_with fail
        refine (ch_New_arg (n := 4) (me := 0) (by omega)).mono ?_
        rintro x Wn ⟨rfl, hb⟩
        have HN := Lib.hid (HR.out.trans (hb.mono HR.out.size))
        clear hb
        go_wp2_with fail
        go_roundw
        case rel => exact ⟨5, by omega, by omega, rfl, HN⟩
        case measure => decide
      · go_wp2_with fail
        refine (ch_New (n := 5) (me := 0) (ok_0 (by omega))).mono ?_
        rintro x Wn ⟨cb, vb, g, rfl, -, -, -, -, hb⟩
        have HN := Lib.hid (HR.out.trans (hb.mono HR.out.size))
        clear hb
        go_wp2_with fail
        go_roundw
        case rel => exact ⟨6, by omega, by omega, rfl, HN⟩
        case measure => decide
      · go_wp2_with fail
        refine (ch_New_arg (n := 6) (me := 0) (by omega)).mono ?_
        rintro x Wn ⟨rfl, hb⟩
        have HN := Lib.hid (HR.out.trans (hb.mono HR.out.size))
        clear hb
        go_wp2_with fail
        go_roundw
        case rel => exact ⟨7, by omega, by omega, rfl, HN⟩
        case measure => decide
      · go_wp2_with fail
        refine (ch_New (n := 7) (me := 0) (ok_0 (by omega))).mono ?_
        rintro x Wn ⟨cb, vb, g, rfl, -, -, -, -, hb⟩
        have HN := Lib.hid (HR.out.trans (hb.mono HR.out.size))
        clear hb
        go_wp2_with fail
        go_roundw
        case rel => exact ⟨8, by omega, by omega, rfl, HN⟩
        case measure => decide
      · go_wp2_with fail
        refine (ch_New_arg (n := 8) (me := 0) (by omega)).mono ?_
        rintro x Wn ⟨rfl, hb⟩
        have HN := Lib.hid (HR.out.trans (hb.mono HR.out.size))
        clear hb
        go_wp2_with fail
        go_roundw
        case rel => exact ⟨9, by omega, by omega, rfl, HN⟩
        case measure => decide
      · go_wp2_with fail
        refine (ch_New_arg (n := 9) (me := 0) (by omega)).mono ?_
        rintro x Wn ⟨rfl, hb⟩
        have HN := Lib.hid (HR.out.trans (hb.mono HR.out.size))
        clear hb
        go_wp2_with fail
        go_roundw
        case rel => exact ⟨10, by omega, by omega, rfl, HN⟩
        case measure => decide
    · obtain rfl : j = 10 := by omega
      clear hj0 hj1 h9
      go_wp2_with fail
      refine (ch_New_arg (n := 3) (me := 3) (by omega)).mono ?_
      rintro x U1 ⟨rfl, hb⟩
      have HU1 := Lib.hid (HR.out.trans (hb.mono HR.out.size))
      clear hb HR
      go_wp2_with fail
      refine (ch_New_arg (n := 3) (me := -1) (by omega)).mono ?_
      rintro x U2 ⟨rfl, hb⟩
      have HU2 := Lib.hid (HU1.out.trans (hb.mono HU1.out.size))
      clear hb HU1
      go_wp2_with fail
      refine (ch_New (n := 1) (me := 0) (ok_0 (by omega))).mono ?_
      rintro x U3 ⟨cb, vb, g, rfl, hC, h1, h2, h3, hb⟩
      have HU3 := Lib.hid (HU2.out.trans (hb.mono HU2.out.size))
      have HC3 := Lib.hid hC
      have H3 := Lib.hid (Three.mk (a := w.heap.size) (Nat.le_trans HU2.out.size h1) (Nat.le_trans HU2.out.size h2) (Nat.le_trans HU2.out.size h3))
      clear hb hC h1 h2 h3 HU2
      go_wp2_with fail
      refine (ch_Hand (k := 0) (h' := k1) HC3.out (ok_0 (by omega)) (by decide) (nil_rd _) fits_no (fun j h => h.elim) (fun h => h) (fun j h => h.elim) (by decide +kernel) (by decide) (by decide) rfl).mono ?_
      rintro x U4 ⟨rfl, hC, hE⟩
      rw [jk_a]
      generalize hS1 : More (fun _ => False) U3 U4 = S1 at hC
      have HU4 := Lib.hid (Ext.from HU3.out hE (fun j hj => hj.elim (fun e => e ▸ H3.out.h1) (fun e => e ▸ H3.out.h3)))
      have HC4 := Lib.hid hC
      have HS4 := Lib.hid (show ∀ j, S1 j → j < U4.heap.size from fun j hj => by
        rw [← hS1] at hj
        rcases hj with ⟨h, -⟩ | ⟨-, h⟩
        · exact h.elim
        · exact h)
      clear hC hE HC3 HU3 hS1 H3
      go_wp2_with fail
      refine (ch_Best HC4.out (ok_0 (by omega)) HS4.out packs3_ok (by decide +kernel)).mono ?_
      rw [show bestOf ((List.replicate 7 noPk).set 0 ⟨0, 3, 3, []⟩) (whoL k1) = pk3 from best3]
      rintro x U5 ⟨bp, bd, rfl, hO, hb⟩
      have HU5 := Lib.hid (HU4.out.trans (hb.mono HU4.out.size))
      have HC5 := Lib.hid (HC4.out.below hb)
      clear hO hb HU4 HC4 HS4
      unfold pk3
      go_upto_region 20 with fail
      have hb := (Below.refl U5.heap.size U5).alloc (Nat.le_refl _) (.cells #[.int .u64 0, .int .u64 3, .int .u64 3, .slice bp 0 bd] 35)
      have kB := Blk.new U5 35 #[.int .u64 0, .int .u64 3, .int .u64 3, .slice bp 0 bd]
      have HU6 := Lib.hid (HU5.out.trans (hb.mono HU5.out.size))
      have HC6 := Lib.hid (HC5.out.below hb)
      have KB6 := Lib.hid kB
      clear hb kB HU5 HC5
      generalize U5.heap.size = bb at *
      generalize U5.alloc (.cells #[.int .u64 0, .int .u64 3, .int .u64 3, .slice bp 0 bd] 35) = U6 at *
      go_wp2_with fail
      refine (ch_Told_arg HC6.out (k := 0) (vn := 0) (.inr (.inr rfl))).mono ?_
      rintro x _ ⟨rfl, rfl⟩
      go_wp2_with fail
      refine (ch_Hand_from HC6.out (.inr (by decide))).mono ?_
      rintro x U7 ⟨rfl, hb⟩
      have HU7 := Lib.hid (HU6.out.trans (hb.mono HU6.out.size))
      have HC7 := Lib.hid (HC6.out.below hb)
      have KB7 := Lib.hid (KB6.out.below hb)
      clear hb HU6 HC6 KB6
      go_wp2_with fail
      refine (ch_Hand_may HC7.out (by decide) (by decide) (nil_rd _) (by decide +kernel) (by decide) (by decide)).mono ?_
      rintro x U8 ⟨rfl, hb⟩
      have HU8 := Lib.hid (HU7.out.trans (hb.mono HU7.out.size))
      have KB8 := Lib.hid (KB7.out.below hb)
      clear hb HU7 HC7 KB7
      obtain ⟨b0, b1, b2, b3, -, -, -, -, bz⟩ := KB8.out.c4
      go_wp2_with fail
      refine (ch_Primary_none (v := 9) (n := 0) (by decide)).mono ?_
      rintro x _ ⟨rfl, rfl⟩
      go_wp2_with fail
      refine (ch_Primary (v := 9) (n := 7) (by decide) (by decide) (by decide) (by decide)).mono ?_
      rintro x _ ⟨rfl, rfl⟩
      go_wp2_with fail
      refine wakes_true.mono ?_
      rintro x U9 ⟨rfl, hb⟩
      have HU9 := Lib.hid (HU8.out.trans (hb.mono HU8.out.size))
      clear hb b0 b1 b2 b3
      go_wp2_with fail
      go_ret
      exact ⟨rfl, HU9.out⟩
end Go.Proofs.Ytgmekodfkhihiaa
