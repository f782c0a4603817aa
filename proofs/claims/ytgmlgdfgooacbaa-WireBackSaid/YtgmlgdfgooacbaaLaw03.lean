/-
  Plain laws of the wire's numbers: what is read is what was written, byte for byte; of a beginning nothing is read. No program in sight.
-/
import Derived.Test.YtgmlgdfgooacbaaRdr3
namespace Go.Proofs.Ytgmlgdfgooacbaa
open Go.RowKit

theorem u8_back (b : UInt8) (h : 128 ≤ b.toNat) (y : Nat) (hy : y % 128 = b.toNat % 128) : (y % 128 + 128).toUInt8 = b := by
  apply UInt8.toNat_inj.1
  rw [Lib.toUInt8_toNat (by omega)]
  have := b.toNat_lt
  omega

/-- What is read has one form. -/
theorem getFrom_canon : ∀ (l : List UInt8) (i acc : Nat), (getFrom i acc l).2.2 = 0 →
    ∃ y, (getFrom i acc l).1 = acc + y * 2 ^ (7 * i) ∧ l.take ((getFrom i acc l).2.1 - i) = Lib.uvarint y ∧ (0 < i → y ≠ 0)
  | [], i, acc, h => by simp only [getFrom] at h; split at h <;> cases h
  | b :: r, i, acc, h => by
    have hb := b.toNat_lt
    simp only [getFrom] at h ⊢
    split
    · rename_i h1; rw [if_pos h1] at h; cases h
    · rename_i h1
      rw [if_neg h1] at h
      split
      · rename_i h2
        rw [if_pos h2] at h
        obtain ⟨y, hn, ht, hy⟩ := getFrom_canon r (i + 1) _ h
        have hk := (getFrom_ok r (i + 1) _ h).1
        refine ⟨b.toNat % 128 + 128 * y, ?_, ?_, fun _ => ?_⟩
        · rw [hn, show 7 * (i + 1) = 7 * i + 7 from by omega, Nat.pow_add, Nat.add_mul, Nat.add_assoc]
          congr 2
          rw [show (2 : Nat) ^ 7 = 128 from by decide, Nat.mul_comm (2 ^ (7 * i)) 128, ← Nat.mul_assoc, Nat.mul_comm y 128]
        · have hy0 := hy (by omega)
          generalize getFrom (i + 1) (acc + b.toNat % 128 * 2 ^ (7 * i)) r = g at *
          rw [show g.2.1 - i = (g.2.1 - (i + 1)) + 1 from by omega, List.take_succ_cons, ht, Lib.uvarint_big (x := b.toNat % 128 + 128 * y) (by omega), u8_back b h2 (b.toNat % 128 + 128 * y) (by omega), show (b.toNat % 128 + 128 * y) / 128 = y from by omega]
        · have hy0 := hy (by omega)
          omega
      · rename_i h2
        rw [if_neg h2] at h
        split
        · rename_i h3; rw [if_pos h3] at h; cases h
        · rename_i h3
          refine ⟨b.toNat, rfl, ?_, fun hi => ?_⟩
          · rw [show i + 1 - i = 1 from by omega, Lib.uvarint_small (by omega)]
            simp
          · intro h0
            exact h3 (.inl ⟨h0, hi⟩)
theorem numGet_canon {l : List UInt8} (h : (numGet l).2.2 = 0) : l.take (numGet l).2.1 = Lib.uvarint (numGet l).1 := by
  obtain ⟨y, h1, h2, -⟩ := getFrom_canon l 0 0 h
  have e : (numGet l).1 = y := by unfold numGet; omega
  rw [e]
  exact h2

/-- What was written is read. -/
theorem getFrom_back : ∀ (k y i acc : Nat) (rest : List UInt8), y < 128 ^ (k + 1) → i ≤ 9 → y * 2 ^ (7 * i) < 18446744073709551616 → (0 < i → y ≠ 0) →
    getFrom i acc (Lib.uvarint y ++ rest) = (acc + y * 2 ^ (7 * i), i + (Lib.uvarint y).length, 0)
  | k, y, i, acc, rest, hk, hi, hlt, h0 => by
    by_cases hs : y < 128
    · rw [Lib.uvarint_small hs]
      have hb : (y.toUInt8).toNat = y := Lib.toUInt8_toNat (by omega)
      simp only [List.cons_append, List.nil_append, getFrom, hb]
      rw [if_neg (by omega), if_neg (by omega), if_neg]
      · rfl
      · rintro (⟨h1, h2⟩ | ⟨h1, h2⟩)
        · exact h0 h2 h1
        · subst h1
          have : 2 * 2 ^ (7 * 9) ≤ y * 2 ^ (7 * 9) := Nat.mul_le_mul_right _ (by omega)
          have e : (2 : Nat) * 2 ^ (7 * 9) = 18446744073709551616 := by decide
          omega
    · match k with
      | 0 => exact absurd (by simpa using hk) hs
      | k + 1 =>
        rw [Lib.uvarint_big (by omega)]
        have hb : ((y % 128 + 128).toUInt8).toNat = y % 128 + 128 := Lib.toUInt8_toNat (by omega)
        have hi9 : i < 9 := by
          rcases Nat.lt_or_ge i 9 with h | h
          · exact h
          · obtain rfl : i = 9 := by omega
            have : 128 * 2 ^ (7 * 9) ≤ y * 2 ^ (7 * 9) := Nat.mul_le_mul_right _ (by omega)
            have e : (2 : Nat) * 2 ^ (7 * 9) = 18446744073709551616 := by decide
            omega
        have hp : y * 2 ^ (7 * i) = y % 128 * 2 ^ (7 * i) + y / 128 * 2 ^ (7 * (i + 1)) := by
          rw [show 7 * (i + 1) = 7 + 7 * i from by omega, Nat.pow_add, ← Nat.mul_assoc, ← Nat.add_mul]
          congr 1
          rw [show (2 : Nat) ^ 7 = 128 from by decide]
          omega
        simp only [List.cons_append, getFrom, hb]
        rw [if_neg (by omega), if_pos (by omega), getFrom_back k (y / 128) (i + 1) _ rest (by rw [Nat.pow_succ] at hk; exact Nat.div_lt_of_lt_mul (by rw [Nat.mul_comm]; exact hk)) (by omega) (by omega) (fun _ => by omega)]
        simp only [List.length_cons, Prod.mk.injEq, and_true]
        refine ⟨?_, by omega⟩
        rw [show (y % 128 + 128) % 128 = y % 128 from by omega, hp]
        omega
theorem numGet_back {n : Nat} (hn : n < 18446744073709551616) (rest : List UInt8) : numGet (Lib.uvarint n ++ rest) = (n, (Lib.uvarint n).length, 0) := by
  have h := getFrom_back 9 n 0 0 rest (Nat.lt_of_lt_of_le hn (by decide)) (by omega) (by simpa using hn) (fun h => absurd h (by omega))
  unfold numGet
  rw [h]
  simp

/-- Of a beginning nothing is read. -/
theorem getFrom_short : ∀ (k y i acc j : Nat), y < 128 ^ (k + 1) → i + k ≤ 9 → j < (Lib.uvarint y).length → getFrom i acc ((Lib.uvarint y).take j) = (0, 0, 4)
  | k, y, i, acc, j, hk, hi, hj => by
    by_cases hs : y < 128
    · rw [Lib.uvarint_small hs] at hj ⊢
      obtain rfl : j = 0 := by simpa using hj
      simp only [List.take_zero, getFrom]
      rw [if_pos (by omega)]
    · match k with
      | 0 => exact absurd (by simpa using hk) hs
      | k + 1 =>
        rw [Lib.uvarint_big (by omega)] at hj ⊢
        match j with
        | 0 =>
          simp only [List.take_zero, getFrom]
          rw [if_pos (by omega)]
        | j + 1 =>
          have hb : ((y % 128 + 128).toUInt8).toNat = y % 128 + 128 := Lib.toUInt8_toNat (by omega)
          simp only [List.take_succ_cons, getFrom, hb]
          rw [if_neg (by omega), if_pos (by omega)]
          exact getFrom_short k (y / 128) (i + 1) _ j (by rw [Nat.pow_succ] at hk; exact Nat.div_lt_of_lt_mul (by rw [Nat.mul_comm]; exact hk)) (by omega) (by simpa using hj)
theorem numGet_short {n j : Nat} (hn : n < 18446744073709551616) (hj : j < (Lib.uvarint n).length) : numGet ((Lib.uvarint n).take j) = (0, 0, 4) :=
  getFrom_short 9 n 0 0 j (Nat.lt_of_lt_of_le hn (by decide)) (by omega) hj

theorem zig_unzig (m : Nat) : Lib.zigzag (Lib.unzigzag m) = m := by
  unfold Lib.zigzag Lib.unzigzag
  split <;> split <;> omega
theorem unzig_zig (x : Int) : Lib.unzigzag (Lib.zigzag x) = x := by
  unfold Lib.zigzag Lib.unzigzag
  split <;> split <;> omega
theorem unzig_bounds {m : Nat} (h : m < 18446744073709551616) : -9223372036854775808 ≤ Lib.unzigzag m ∧ Lib.unzigzag m ≤ 9223372036854775807 := by
  unfold Lib.unzigzag
  split <;> omega
end Go.Proofs.Ytgmlgdfgooacbaa
