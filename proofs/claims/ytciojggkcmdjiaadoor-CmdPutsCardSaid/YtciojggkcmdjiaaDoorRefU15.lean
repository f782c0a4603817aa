/-
  The reference's code points of bytes (copybookref04): May, one: their contracts.
-/
import Derived.Test.YtciojggkcmdjiaaDoorRefL15
import Derived.Test.YtciojggkcmdjiaaDoorAwk15
import Derived.LoopTactic
namespace Go.Proofs.YtciojggkcmdjiaaDoor
open Go.RowKit
set_option linter.unusedSimpArgs false
set_option linter.unusedVariables false

theorem ref04_May {w : World} {c : Int} : Calls Tryd.prog 72 #[.int .i32 c] w fun x w' => x = .returned (.bool (mayC c)) ∧ w = w' := by
  obtain ⟨r, hr⟩ : ∃ x, mayC c = x := ⟨_, rfl⟩
  rw [hr]
  unfold mayC at hr
  by_cases h0 : 0 ≤ c
  · have d0 : decide (0 ≤ c) = true := by simpa using h0
    by_cases h1 : c < 55296
    · have d1 : decide (c < 55296) = true := by simpa using h1
      obtain rfl : r = true := by rw [← hr]; simp; omega
      clear hr h0 h1
      go_enter Tryd.func72, Tryd.ntmps72
      go_wp2_with fail
      go_ret
      exact ⟨rfl, rfl⟩
    · have d1 : decide (c < 55296) = false := by simpa using h1
      by_cases h2 : 57343 < c
      · have d2 : decide (57343 < c) = true := by simpa using h2
        by_cases h3 : c ≤ 1114111
        · have d3 : decide (c ≤ 1114111) = true := by simpa using h3
          obtain rfl : r = true := by rw [← hr]; simp; omega
          clear hr h0 h1 h2 h3
          go_enter Tryd.func72, Tryd.ntmps72
          go_wp2_with fail
          go_ret
          exact ⟨rfl, rfl⟩
        · have d3 : decide (c ≤ 1114111) = false := by simpa using h3
          obtain rfl : r = false := by rw [← hr]; simp; omega
          clear hr h0 h1 h2 h3
          go_enter Tryd.func72, Tryd.ntmps72
          go_wp2_with fail
          go_ret
          exact ⟨rfl, rfl⟩
      · have d2 : decide (57343 < c) = false := by simpa using h2
        obtain rfl : r = false := by rw [← hr]; simp; omega
        clear hr h0 h1 h2
        go_enter Tryd.func72, Tryd.ntmps72
        go_wp2_with fail
        go_ret
        exact ⟨rfl, rfl⟩
  · have d0 : decide (0 ≤ c) = false := by simpa using h0
    have d2 : decide (57343 < c) = false := by simp; omega
    obtain rfl : r = false := by rw [← hr]; simp; omega
    clear hr h0
    go_enter Tryd.func72, Tryd.ntmps72
    go_wp2_with fail
    go_ret
    exact ⟨rfl, rfl⟩
theorem u8z_cell {z : Int} (h0 : 0 ≤ z) (h1 : z < 256) : Value.int .u8 ((u8z z).toNat : Nat) = .int .u8 z := by rw [u8z_nat h0 h1]
def OneR (w w' : World) (l : List UInt8) (x : Ending) : Prop := ∃ p c, x = .returned (.slice p l.length c) ∧ CmdRd w' (fun k => k = w.heap.size) (.slice p l.length c) l ∧ Below w.heap.size w w'
theorem oneR_of {w : World} {l : List UInt8} {cs : Array Value} (hm : l.length ≤ 4) (h : cs = (bcells l).toArray) : OneR w (w.alloc (.cells cs 5)) l (.returned (.slice (some ⟨w.heap.size, 0, none⟩) l.length l.length)) := by
  subst h
  exact ⟨_, _, rfl, rd_new rfl (by unfold maxLen; omega), (Below.refl w.heap.size w).alloc (Nat.le_refl _) _⟩
set_option maxHeartbeats 1600000 in
theorem ref04_one {w : World} {m : Nat} (hm : m ≤ 1114111) : Calls Tryd.prog 91 #[.int .i32 m] w fun x w' => OneR w w' (oneB m) x := by
  by_cases h1 : m < 128
  · have d1 : decide ((m : Int) < 128) = true := by simp; omega
    have Hl := Lib.hid (show oneB m = [u8z m] by unfold oneB; rw [if_pos (by omega)])
    have H0 := Lib.hid (u8z_cell (z := m) (by omega) (by omega))
    go_enter Tryd.func91, Tryd.ntmps91
    go_wp2_with fail
    go_ret
    rw [Hl.out]
    refine oneR_of (l := [u8z m]) (by simp) ?_
    simp only [bcells, List.map_cons, List.map_nil, H0.out]
  · have d1 : decide ((m : Int) < 128) = false := by simp; omega
    by_cases h2 : m < 2048
    · have d2 : decide ((m : Int) < 2048) = true := by simp; omega
      have Hl := Lib.hid (show oneB m = [u8z (192 + (m : Int) / 64), u8z (128 + (m : Int) % 64)] by unfold oneB; rw [if_neg (by omega), if_pos (by omega)])
      have H0 := Lib.hid (u8z_cell (z := 192 + (m : Int) / 64) (by omega) (by omega))
      have H1 := Lib.hid (u8z_cell (z := 128 + (m : Int) % 64) (by omega) (by omega))
      go_enter Tryd.func91, Tryd.ntmps91
      go_wp2_with fail
      go_ret
      rw [Hl.out]
      refine oneR_of (l := [u8z (192 + (m : Int) / 64), u8z (128 + (m : Int) % 64)]) (by simp) ?_
      simp only [bcells, List.map_cons, List.map_nil, H0.out, H1.out]
    · have d2 : decide ((m : Int) < 2048) = false := by simp; omega
      by_cases h3 : m < 65536
      · have d3 : decide ((m : Int) < 65536) = true := by simp; omega
        have Hl := Lib.hid (show oneB m = [u8z (224 + (m : Int) / 4096), u8z (128 + (m : Int) / 64 % 64), u8z (128 + (m : Int) % 64)] by unfold oneB; rw [if_neg (by omega), if_neg (by omega), if_pos (by omega)])
        have H0 := Lib.hid (u8z_cell (z := 224 + (m : Int) / 4096) (by omega) (by omega))
        have H1 := Lib.hid (u8z_cell (z := 128 + (m : Int) / 64 % 64) (by omega) (by omega))
        have H2 := Lib.hid (u8z_cell (z := 128 + (m : Int) % 64) (by omega) (by omega))
        go_enter Tryd.func91, Tryd.ntmps91
        go_wp2_with fail
        go_ret
        rw [Hl.out]
        refine oneR_of (l := [u8z (224 + (m : Int) / 4096), u8z (128 + (m : Int) / 64 % 64), u8z (128 + (m : Int) % 64)]) (by simp) ?_
        simp only [bcells, List.map_cons, List.map_nil, H0.out, H1.out, H2.out]
      · have d3 : decide ((m : Int) < 65536) = false := by simp; omega
        have Hl := Lib.hid (show oneB m = [u8z (240 + (m : Int) / 262144), u8z (128 + (m : Int) / 4096 % 64), u8z (128 + (m : Int) / 64 % 64), u8z (128 + (m : Int) % 64)] by unfold oneB; rw [if_neg (by omega), if_neg (by omega), if_neg (by omega)])
        have H0 := Lib.hid (u8z_cell (z := 240 + (m : Int) / 262144) (by omega) (by omega))
        have H1 := Lib.hid (u8z_cell (z := 128 + (m : Int) / 4096 % 64) (by omega) (by omega))
        have H2 := Lib.hid (u8z_cell (z := 128 + (m : Int) / 64 % 64) (by omega) (by omega))
        have H3 := Lib.hid (u8z_cell (z := 128 + (m : Int) % 64) (by omega) (by omega))
        go_enter Tryd.func91, Tryd.ntmps91
        go_wp2_with fail
        go_ret
        rw [Hl.out]
        refine oneR_of (l := [u8z (240 + (m : Int) / 262144), u8z (128 + (m : Int) / 4096 % 64), u8z (128 + (m : Int) / 64 % 64), u8z (128 + (m : Int) % 64)]) (by simp) ?_
        simp only [bcells, List.map_cons, List.map_nil, H0.out, H1.out, H2.out, H3.out]
end Go.Proofs.YtciojggkcmdjiaaDoor
