/-
  piece.Table: how it lies; none, Len, right: the contracts. No condition but a length far below what memory bears.
-/
import Derived.Test.YtelaiafpfaohfaaJoined
namespace Go.Proofs.Ytelaiafpfaohfaa
open Go.RowKit
set_option linter.unusedSimpArgs false
set_option linter.unusedVariables false

/-- A table: both buffers, the pieces, how long the text is. -/
def TabS (w : World) (S : Nat → Prop) (b : Nat) (f s : List Int) (ps : List Pc) (n : Nat) : Prop :=
  ∃ vf vs vp, Blk w b 63 #[vf, vs, vp, .int .i64 n, .bool true] ∧ CharRd w S vf f ∧ CharRd w S vs s ∧ PcsRd w S vp ps ∧ NilOk vf ∧ NilOk vs
/-- A table, its rows anywhere but in its own block. -/
def TabAt (w : World) (b : Nat) (f s : List Int) (ps : List Pc) (n : Nat) : Prop := TabS w (fun k => k ≠ b) b f s ps n

theorem tab_none {w : World} {b : Nat} {x y z : Value} {n : Int} (h : Blk w b 63 #[x, y, z, .int .i64 n, .bool true]) :
    Calls Try.prog 35 #[.pointer (some ⟨b, 0, none⟩)] w fun e w' => e = .returned (.bool false) ∧ w = w' := by
  have a4 : w.cell? ⟨b, 4, none⟩ = some (.bool true) := h.cell 4
  clear h
  go_enter Try.func35, Try.ntmps35
  go_wp2
  go_ret
  exact ⟨rfl, rfl⟩
theorem tab_noneZ {w : World} {b : Nat} {x y z u : Value} (h : Blk w b 63 #[x, y, z, u, .bool false]) :
    Calls Try.prog 35 #[.pointer (some ⟨b, 0, none⟩)] w fun e w' => e = .returned (.bool true) ∧ w = w' := by
  have a4 : w.cell? ⟨b, 4, none⟩ = some (.bool false) := h.cell 4
  clear h
  go_enter Try.func35, Try.ntmps35
  go_wp2
  go_ret
  exact ⟨rfl, rfl⟩
theorem tab_none0 {w : World} : Calls Try.prog 35 #[.pointer none] w fun e w' => e = .returned (.bool true) ∧ w = w' := by
  go_enter Try.func35, Try.ntmps35
  go_wp2
  go_ret
  exact ⟨rfl, rfl⟩

theorem tab_Len {w : World} {b : Nat} {x y z : Value} {n : Int} (h : Blk w b 63 #[x, y, z, .int .i64 n, .bool true]) :
    Calls Try.prog 23 #[.pointer (some ⟨b, 0, none⟩)] w fun e w' => e = .returned (.int .i64 n) ∧ w = w' := by
  have a3 : w.cell? ⟨b, 3, none⟩ = some (.int .i64 n) := h.cell 3
  have H := Lib.hid h
  clear h
  go_enter Try.func23, Try.ntmps23
  go_wp2_with fail
  refine (tab_none H.out).mono ?_
  rintro e w' ⟨rfl, rfl⟩
  go_wp2_with fail
  go_ret
  exact ⟨rfl, rfl⟩
theorem tab_Len0 {w : World} : Calls Try.prog 23 #[.pointer none] w fun e w' => e = .returned (.int .i64 0) ∧ w = w' := by
  go_enter Try.func23, Try.ntmps23
  go_wp2_with fail
  refine tab_none0.mono ?_
  rintro e w' ⟨rfl, rfl⟩
  go_wp2_with fail
  go_ret
  exact ⟨rfl, rfl⟩

/-- May a stretch be asked for? -/
def inText (long : Nat) (pos n : Int) : Bool := decide (0 ≤ pos ∧ 0 ≤ n ∧ pos ≤ long ∧ n ≤ long - pos)
set_option maxHeartbeats 1600000 in
theorem tab_right {w : World} {b long : Nat} {x y z : Value} {pos n : Int} (h : Blk w b 63 #[x, y, z, .int .i64 (long : Int), .bool true]) (hl : long ≤ 70368744177664) (hp : -9223372036854775808 ≤ pos ∧ pos ≤ 9223372036854775807) (hn : -9223372036854775808 ≤ n ∧ n ≤ 9223372036854775807) :
    Calls Try.prog 38 #[.pointer (some ⟨b, 0, none⟩), .int .i64 pos, .int .i64 n] w fun e w' => e = .returned (.int .i64 (if inText long pos n then 0 else 30)) ∧ w = w' := by
  have a3 : w.cell? ⟨b, 3, none⟩ = some (.int .i64 (long : Int)) := h.cell 3
  have H := Lib.hid h
  clear h
  by_cases h1 : pos < 0
  · have hc : inText long pos n = false := by unfold inText; exact decide_eq_false (fun h => by omega)
    rw [hc]
    go_enter Try.func38, Try.ntmps38
    go_wp2_with fail
    refine (tab_none H.out).mono ?_
    rintro e w' ⟨rfl, rfl⟩
    go_wp2_with fail
    go_ret
    exact ⟨rfl, rfl⟩
  · by_cases h2 : n < 0
    · have hc : inText long pos n = false := by unfold inText; exact decide_eq_false (fun h => by omega)
      rw [hc]
      go_enter Try.func38, Try.ntmps38
      go_wp2_with fail
      refine (tab_none H.out).mono ?_
      rintro e w' ⟨rfl, rfl⟩
      go_wp2_with fail
      go_ret
      exact ⟨rfl, rfl⟩
    · by_cases h3 : (long : Int) < pos
      · have hc : inText long pos n = false := by unfold inText; exact decide_eq_false (fun h => by omega)
        rw [hc]
        go_enter Try.func38, Try.ntmps38
        go_wp2_with fail
        refine (tab_none H.out).mono ?_
        rintro e w' ⟨rfl, rfl⟩
        go_wp2_with fail
        go_ret
        exact ⟨rfl, rfl⟩
      · by_cases h4 : (long : Int) - pos < n
        · have hc : inText long pos n = false := by unfold inText; exact decide_eq_false (fun h => by omega)
          rw [hc]
          go_enter Try.func38, Try.ntmps38
          go_wp2_with fail
          refine (tab_none H.out).mono ?_
          rintro e w' ⟨rfl, rfl⟩
          go_wp2_with fail
          go_ret
          exact ⟨rfl, rfl⟩
        · have hc : inText long pos n = true := by unfold inText; exact decide_eq_true (by omega)
          rw [hc]
          go_enter Try.func38, Try.ntmps38
          go_wp2_with fail
          refine (tab_none H.out).mono ?_
          rintro e w' ⟨rfl, rfl⟩
          go_wp2_with fail
          go_ret
          exact ⟨rfl, rfl⟩
theorem tab_right0 {w : World} {pos n : Int} : Calls Try.prog 38 #[.pointer none, .int .i64 pos, .int .i64 n] w fun e w' => e = .returned (.int .i64 2) ∧ w = w' := by
  go_enter Try.func38, Try.ntmps38
  go_wp2_with fail
  refine tab_none0.mono ?_
  rintro e w' ⟨rfl, rfl⟩
  go_wp2_with fail
  go_ret
  exact ⟨rfl, rfl⟩
end Go.Proofs.Ytelaiafpfaohfaa
