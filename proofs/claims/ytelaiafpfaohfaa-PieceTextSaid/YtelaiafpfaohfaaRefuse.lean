/-
  piece.Table: what is refused, and what changes nothing: the contracts. No condition but a length far below what memory bears.
-/
import Derived.Test.YtelaiafpfaohfaaText
namespace Go.Proofs.Ytelaiafpfaohfaa
open Go.RowKit
set_option linter.unusedSimpArgs false
set_option linter.unusedVariables false

theorem read_no {w : World} {b long : Nat} {x y z : Value} {pos n : Int} (h : Blk w b 63 #[x, y, z, .int .i64 (long : Int), .bool true]) (hl : long ≤ 70368744177664) (hp : -9223372036854775808 ≤ pos ∧ pos ≤ 9223372036854775807) (hn : -9223372036854775808 ≤ n ∧ n ≤ 9223372036854775807) (ho : inText long pos n = false) :
    Calls Try.prog 16 #[.pointer (some ⟨b, 0, none⟩), .int .i64 pos, .int .i64 n] w fun e w' => e = .returned (.tuple #[.slice none 0 0, .int .i64 30]) ∧ w = w' := by
  have hr := tab_right h hl hp hn
  rw [ho] at hr
  simp only [Bool.false_eq_true, if_false] at hr
  have Hr := Lib.hid hr
  clear hr h
  go_enter Try.func16, Try.ntmps16
  go_wp2_with fail
  refine Hr.out.mono ?_
  rintro e w' ⟨rfl, rfl⟩
  go_wp2_with fail
  go_ret2
  exact ⟨rfl, rfl⟩
theorem delete_no {w : World} {b long : Nat} {x y z : Value} {pos n : Int} (h : Blk w b 63 #[x, y, z, .int .i64 (long : Int), .bool true]) (hl : long ≤ 70368744177664) (hp : -9223372036854775808 ≤ pos ∧ pos ≤ 9223372036854775807) (hn : -9223372036854775808 ≤ n ∧ n ≤ 9223372036854775807) (ho : inText long pos n = false) :
    Calls Try.prog 14 #[.pointer (some ⟨b, 0, none⟩), .int .i64 pos, .int .i64 n] w fun e w' => e = .returned (.int .i64 30) ∧ w = w' := by
  have hr := tab_right h hl hp hn
  rw [ho] at hr
  simp only [Bool.false_eq_true, if_false] at hr
  have Hr := Lib.hid hr
  clear hr h
  go_enter Try.func14, Try.ntmps14
  go_wp2_with fail
  refine Hr.out.mono ?_
  rintro e w' ⟨rfl, rfl⟩
  go_wp2_with fail
  go_ret
  exact ⟨rfl, rfl⟩
theorem delete_zero {w : World} {b long : Nat} {x y z : Value} {pos n : Int} (h : Blk w b 63 #[x, y, z, .int .i64 (long : Int), .bool true]) (hl : long ≤ 70368744177664) (hp : -9223372036854775808 ≤ pos ∧ pos ≤ 9223372036854775807) (hn : -9223372036854775808 ≤ n ∧ n ≤ 9223372036854775807) (ho : inText long pos n = true) (h0 : n = 0) :
    Calls Try.prog 14 #[.pointer (some ⟨b, 0, none⟩), .int .i64 pos, .int .i64 n] w fun e w' => e = .returned (.int .i64 0) ∧ w = w' := by
  have hr := tab_right h hl hp hn
  rw [ho] at hr
  simp only [if_true] at hr
  subst h0
  have Hr := Lib.hid hr
  clear hr h
  go_enter Try.func14, Try.ntmps14
  go_wp2_with fail
  refine Hr.out.mono ?_
  rintro e w' ⟨rfl, rfl⟩
  go_wp2_with fail
  go_ret
  exact ⟨rfl, rfl⟩
theorem read_nil {w : World} {pos n : Int} :
    Calls Try.prog 16 #[.pointer none, .int .i64 pos, .int .i64 n] w fun e w' => e = .returned (.tuple #[.slice none 0 0, .int .i64 2]) ∧ w = w' := by
  go_enter Try.func16, Try.ntmps16
  go_wp2_with fail
  refine tab_right0.mono ?_
  rintro e w' ⟨rfl, rfl⟩
  go_wp2_with fail
  go_ret2
  exact ⟨rfl, rfl⟩
theorem delete_nil {w : World} {pos n : Int} :
    Calls Try.prog 14 #[.pointer none, .int .i64 pos, .int .i64 n] w fun e w' => e = .returned (.int .i64 2) ∧ w = w' := by
  go_enter Try.func14, Try.ntmps14
  go_wp2_with fail
  refine tab_right0.mono ?_
  rintro e w' ⟨rfl, rfl⟩
  go_wp2_with fail
  go_ret
  exact ⟨rfl, rfl⟩
theorem insert_nil {w : World} {pos : Int} {v : Value} :
    Calls Try.prog 12 #[.pointer none, .int .i64 pos, v] w fun e w' => e = .returned (.int .i64 2) ∧ w = w' := by
  go_enter Try.func12, Try.ntmps12
  go_wp2_with fail
  refine tab_none0.mono ?_
  rintro e w' ⟨rfl, rfl⟩
  go_wp2_with fail
  go_ret
  exact ⟨rfl, rfl⟩
theorem pieces_nil {w : World}  :
    Calls Try.prog 26 #[.pointer none] w fun e w' => e = .returned (.slice none 0 0) ∧ w = w' := by
  go_enter Try.func26, Try.ntmps26
  go_wp2_with fail
  refine tab_none0.mono ?_
  rintro e w' ⟨rfl, rfl⟩
  go_wp2_with fail
  go_ret
  exact ⟨rfl, rfl⟩
theorem copy_nil {w : World}  :
    Calls Try.prog 21 #[.pointer none] w fun e w' => e = .returned (.pointer none) ∧ w = w' := by
  go_enter Try.func21, Try.ntmps21
  go_wp2_with fail
  refine tab_none0.mono ?_
  rintro e w' ⟨rfl, rfl⟩
  go_wp2_with fail
  go_ret
  exact ⟨rfl, rfl⟩
theorem insert_unmade {w : World} {b : Nat} {x y z u : Value} {pos : Int} {v : Value} (h : Blk w b 63 #[x, y, z, u, .bool false]) :
    Calls Try.prog 12 #[.pointer (some ⟨b, 0, none⟩), .int .i64 pos, v] w fun e w' => e = .returned (.int .i64 2) ∧ w = w' := by
  go_enter Try.func12, Try.ntmps12
  go_wp2_with fail
  refine (tab_noneZ h).mono ?_
  rintro e w' ⟨rfl, rfl⟩
  go_wp2_with fail
  go_ret
  exact ⟨rfl, rfl⟩
theorem insert_neg {w : World} {b long : Nat} {x y z : Value} {pos : Int} {pl : Option Addr} {n cl : Nat} (h : Blk w b 63 #[x, y, z, .int .i64 (long : Int), .bool true]) (hl : long ≤ 70368744177664) (hp : pos < 0) :
    Calls Try.prog 12 #[.pointer (some ⟨b, 0, none⟩), .int .i64 pos, .slice pl n cl] w fun e w' => e = .returned (.int .i64 30) ∧ w = w' := by
  have a3 : w.cell? ⟨b, 3, none⟩ = some (.int .i64 (long : Int)) := h.cell 3
  have Hno := Lib.hid (tab_none h)
  clear h
  go_enter Try.func12, Try.ntmps12
  go_wp2_with fail
  refine Hno.out.mono ?_
  rintro e w' ⟨rfl, rfl⟩
  go_wp2_with fail
  go_ret
  exact ⟨rfl, rfl⟩
theorem insert_far {w : World} {b long : Nat} {x y z : Value} {pos : Int} {pl : Option Addr} {n cl : Nat} (h : Blk w b 63 #[x, y, z, .int .i64 (long : Int), .bool true]) (hl : long ≤ 70368744177664) (hp0 : ¬ pos < 0) (hp : (long : Int) < pos) :
    Calls Try.prog 12 #[.pointer (some ⟨b, 0, none⟩), .int .i64 pos, .slice pl n cl] w fun e w' => e = .returned (.int .i64 30) ∧ w = w' := by
  have a3 : w.cell? ⟨b, 3, none⟩ = some (.int .i64 (long : Int)) := h.cell 3
  have Hno := Lib.hid (tab_none h)
  clear h
  go_enter Try.func12, Try.ntmps12
  go_wp2_with fail
  refine Hno.out.mono ?_
  rintro e w' ⟨rfl, rfl⟩
  go_wp2_with fail
  go_ret
  exact ⟨rfl, rfl⟩
theorem insert_empty {w : World} {b long : Nat} {x y z : Value} {pos : Int} {pl : Option Addr} {n cl : Nat} (h : Blk w b 63 #[x, y, z, .int .i64 (long : Int), .bool true]) (hl : long ≤ 70368744177664) (hp0 : ¬ pos < 0) (hp : ¬ (long : Int) < pos) :
    Calls Try.prog 12 #[.pointer (some ⟨b, 0, none⟩), .int .i64 pos, .slice pl 0 cl] w fun e w' => e = .returned (.int .i64 0) ∧ w = w' := by
  have a3 : w.cell? ⟨b, 3, none⟩ = some (.int .i64 (long : Int)) := h.cell 3
  have Hno := Lib.hid (tab_none h)
  clear h
  go_enter Try.func12, Try.ntmps12
  go_wp2_with fail
  refine Hno.out.mono ?_
  rintro e w' ⟨rfl, rfl⟩
  go_wp2_with fail
  go_ret
  exact ⟨rfl, rfl⟩
end Go.Proofs.Ytelaiafpfaohfaa
