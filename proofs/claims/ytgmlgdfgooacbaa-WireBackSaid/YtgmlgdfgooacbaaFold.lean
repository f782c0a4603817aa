/-
  num.Fold, num.Unfold: contracts. No condition but that the numbers are of their kinds.
-/
import Derived.Test.YtgmlgdfgooacbaaNum
import Derived.Lib.VarintDec
namespace Go.Proofs.Ytgmlgdfgooacbaa
open Go.RowKit
set_option linter.unusedSimpArgs false
set_option linter.unusedVariables false

theorem fold_bits_neg {x : Int} (h0 : -9223372036854775808 ≤ x) (hneg : x < 0) : bits .xor .u64 (IntKind.u64.wrap (IntKind.u64.wrap x * 2)) (IntKind.u64.wrap (-1)) = ((Lib.zigzag x : Nat) : Int) := by
  have e1 : IntKind.u64.wrap (IntKind.u64.wrap x * 2) = (((2 * x + 18446744073709551616).toNat : Nat) : Int) := by
    rw [IntKind.wrap_u64, IntKind.wrap_u64]
    omega
  rw [e1, show IntKind.u64.wrap (-1) = ((2 ^ 64 - 1 : Nat) : Int) from by decide, bits_xor_u64_nat _ _ (by omega) (by decide), Nat.xor_comm, Lib.xor_ones64 _ (by omega)]
  unfold Lib.zigzag
  rw [if_neg (by omega)]
  omega
theorem fold_bits_pos {x : Int} (h0 : 0 ≤ x) (h1 : x ≤ 9223372036854775807) : bits .xor .u64 (x * 2) 0 = ((Lib.zigzag x : Nat) : Int) := by
  obtain ⟨n, rfl⟩ := Int.eq_ofNat_of_zero_le h0
  rw [show ((n : Int) * 2) = ((n * 2 : Nat) : Int) from by omega, show (0 : Int) = ((0 : Nat) : Int) from rfl, bits_xor_u64_nat _ _ (by omega) (by decide), Nat.xor_zero, Lib.zigzag_nonneg (by omega)]
  omega

theorem num_Fold {w : World} {x : Int} (h0 : -9223372036854775808 ≤ x) (h1 : x ≤ 9223372036854775807) :
    Calls Try.prog 37 #[.int .i64 x] w fun e w' => e = .returned (.int .u64 (Lib.zigzag x : Nat)) ∧ w = w' := by
  by_cases hneg : x < 0
  · have hb := fold_bits_neg h0 hneg
    have hs : x / 9223372036854775808 = -1 := by omega
    go_enter Try.func37, Try.ntmps37
    go_wp2
    go_ret
    exact ⟨rfl, rfl⟩
  · have hb := fold_bits_pos (x := x) (by omega) h1
    have hs : x / 9223372036854775808 = 0 := by omega
    go_enter Try.func37, Try.ntmps37
    go_wp2
    go_ret
    exact ⟨rfl, rfl⟩

theorem i64_xor_zero (a : Nat) (ha : a < 9223372036854775808) : bits .xor .i64 (a : Int) 0 = (a : Int) := by
  show IntKind.i64.wrap ((BitVec.ofInt 64 (a : Int) ^^^ BitVec.ofInt 64 0).toNat : Int) = _
  have h2 : (BitVec.ofInt 64 (a : Int)).toNat = a := by
    rw [BitVec.ofInt_natCast, BitVec.toNat_ofNat]; exact Nat.mod_eq_of_lt (by omega)
  have h3 : (BitVec.ofInt 64 0).toNat = 0 := by decide
  rw [BitVec.toNat_xor, h2, h3, Nat.xor_zero, IntKind.wrap_i64]
  omega
theorem i64_xor_ones (a : Nat) (ha : a < 9223372036854775808) : bits .xor .i64 (a : Int) (-1) = -(a : Int) - 1 := by
  show IntKind.i64.wrap ((BitVec.ofInt 64 (a : Int) ^^^ BitVec.ofInt 64 (-1)).toNat : Int) = _
  have h1 : (BitVec.ofInt 64 (-1)).toNat = 2 ^ 64 - 1 := by decide
  have h2 : (BitVec.ofInt 64 (a : Int)).toNat = a := by
    rw [BitVec.ofInt_natCast, BitVec.toNat_ofNat]; exact Nat.mod_eq_of_lt (by omega)
  rw [BitVec.toNat_xor, h1, h2, Nat.xor_comm, Lib.xor_ones64 a (by omega), IntKind.wrap_i64]
  omega

theorem num_Unfold {w : World} {n : Nat} (hn : n < 18446744073709551616) :
    Calls Try.prog 42 #[.int .u64 n] w fun e w' => e = .returned (.int .i64 (Lib.unzigzag n)) ∧ w = w' := by
  have ha := Lib.u64_and1 (n : Int) (by omega) (by omega)
  obtain ⟨a, had⟩ : ∃ a : Nat, a = n / 2 := ⟨_, rfl⟩
  have hal : a < 9223372036854775808 := by omega
  have hd : (n : Int) / 2 = (a : Int) := by omega
  by_cases hm : n % 2 = 0
  · have hx := i64_xor_zero a hal
    have hu : Lib.unzigzag n = (a : Int) := by unfold Lib.unzigzag; rw [if_pos hm, had]
    have hz : (n : Int) % 2 = 0 := by omega
    rw [hu]
    clear hu had
    go_enter Try.func42, Try.ntmps42
    go_wp2
    go_ret
    exact ⟨rfl, rfl⟩
  · have hx := i64_xor_ones a hal
    have hu : Lib.unzigzag n = -(a : Int) - 1 := by unfold Lib.unzigzag; rw [if_neg hm, had]
    have hz : (n : Int) % 2 = 1 := by omega
    rw [hu]
    clear hu had
    go_enter Try.func42, Try.ntmps42
    go_wp2
    go_ret
    exact ⟨rfl, rfl⟩
end Go.Proofs.Ytgmlgdfgooacbaa
