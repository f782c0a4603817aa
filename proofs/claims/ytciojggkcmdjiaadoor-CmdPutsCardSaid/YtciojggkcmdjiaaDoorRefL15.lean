/-
  Plain: the reference's first code point of bytes is the program's. No condition.
-/
import Derived.Test.YtciojggkcmdjiaaDoorUtfD15
import Derived.Laws.BitsLemmas
namespace Go.Proofs.YtciojggkcmdjiaaDoor
open Go.RowKit
set_option linter.unusedSimpArgs false
set_option linter.unusedVariables false

def u8z (z : Int) : UInt8 := UInt8.ofNat z.toNat
theorem u8z_nat {z : Int} (h0 : 0 ≤ z) (h1 : z < 256) : ((u8z z).toNat : Int) = z := by
  unfold u8z
  rw [UInt8.toNat_ofNat']
  omega
theorem u8z_eq {z : Int} {x : UInt8} (h0 : 0 ≤ z) (h1 : z < 256) : u8z z = x ↔ z = (x.toNat : Int) := by
  constructor
  · rintro rfl
    exact (u8z_nat h0 h1).symm
  · intro h
    apply UInt8.toNat_inj.1
    have := u8z_nat h0 h1
    omega
/-- A code point's bytes, as the reference has them. -/
def oneB (c : Int) : List UInt8 :=
  if c < 128 then [u8z c] else if c < 2048 then [u8z (192 + c / 64), u8z (128 + c % 64)]
  else if c < 65536 then [u8z (224 + c / 4096), u8z (128 + c / 64 % 64), u8z (128 + c % 64)]
  else [u8z (240 + c / 262144), u8z (128 + c / 4096 % 64), u8z (128 + c / 64 % 64), u8z (128 + c % 64)]
theorem start_at : ∀ a : Fin 256, startC (a.val : Nat) 128 = ((a.val % 128 : Nat) : Int) ∧ startC (a.val : Nat) 32 = ((a.val % 32 : Nat) : Int) ∧ startC (a.val : Nat) 16 = ((a.val % 16 : Nat) : Int) ∧ startC (a.val : Nat) 8 = ((a.val % 8 : Nat) : Int) := by decide +kernel
theorem start_mod (x : UInt8) : startC (x.toNat : Nat) 128 = ((x.toNat % 128 : Nat) : Int) ∧ startC (x.toNat : Nat) 32 = ((x.toNat % 32 : Nat) : Int) ∧ startC (x.toNat : Nat) 16 = ((x.toNat % 16 : Nat) : Int) ∧ startC (x.toNat : Nat) 8 = ((x.toNat % 8 : Nat) : Int) := start_at ⟨x.toNat, x.toNat_lt⟩
theorem and63_at : ∀ a : Fin 256, bits .and .u8 ((a.val : Nat) : Int) 63 = ((a.val % 64 : Nat) : Int) := by decide +kernel
theorem and63 (x : UInt8) : bits .and .u8 (x.toNat : Int) 63 = ((x.toNat % 64 : Nat) : Int) := and63_at ⟨x.toNat, x.toNat_lt⟩
theorem wrap_i32 {n : Int} (h0 : -2147483648 ≤ n) (h1 : n ≤ 2147483647) : wrap32 n = n := by
  unfold wrap32
  omega
theorem wraps_i32 (n : Int) (h₀ : 0 ≤ n) (h₁ : n < 2 ^ 31) : IntKind.i32.wrap n = n := by
  have e : (2 : Int) ^ 31 = 2147483648 := by decide
  rw [e] at h₁
  simp only [IntKind.wrap, IntKind.bits, IntKind.signed]
  simp
  omega
theorem next_eq {c : Int} {x : UInt8} (h0 : 0 ≤ c) (h1 : c < 16777216) : nextC c (x.toNat : Nat) = c * 64 + ((x.toNat % 64 : Nat) : Int) := by
  unfold nextC
  rw [and63, wrap_i32 (by omega) (by omega), wrap_i32 (by omega) (by omega)]
  exact bits_join .i32 31 (by decide) wraps_i32 6 _ _ (by omega) (by omega) (by have e : (2 : Int) ^ 31 = 2147483648 := by decide
                                                                                rw [e]; omega) (by omega) (by omega) (by have e : (2 : Int) ^ 31 = 2147483648 := by decide
                                                                                                                         rw [e]; omega)
theorem sizeC_iff {c : Int} {n : Nat} (hn : 0 < n) : sizeC c = n ↔ mayC c = true ∧ ((c ≤ 127 ∧ n = 1) ∨ (127 < c ∧ c ≤ 2047 ∧ n = 2) ∨ (2047 < c ∧ c ≤ 65535 ∧ n = 3) ∨ (65535 < c ∧ n = 4)) := by
  unfold sizeC
  cases mayC c <;> simp
  · omega
  · split
    · omega
    · split
      · omega
      · split <;> omega
theorem mayC_iff {c : Int} : mayC c = true → 0 ≤ c ∧ c ≤ 1114111 := by
  unfold mayC
  simp only [Bool.and_eq_true, decide_eq_true_eq]
  omega
theorem formB_some {b : List UInt8} {x0 q hd : Int} {n : Nat} : (formB b x0 q hd n).isSome = true ↔ (x0 / q = hd ∧ n ≤ b.length) ∧ (nexts ((b.drop 1).take (n - 1)) (true, startC x0 q)).1 = true ∧ sizeC (nexts ((b.drop 1).take (n - 1)) (true, startC x0 q)).2 = n := by
  unfold formB
  split
  · rename_i h
    simp only
    split
    · rename_i h2
      simp only [Bool.and_eq_true, beq_iff_eq] at h2
      exact ⟨fun _ => ⟨h, h2⟩, fun _ => rfl⟩
    · rename_i h2
      simp only [Bool.and_eq_true, beq_iff_eq] at h2
      simp only [Option.isSome_none, Bool.false_eq_true, false_iff]
      exact fun h3 => h2 h3.2
  · rename_i h
    simp only [Option.isSome_none, Bool.false_eq_true, false_iff]
    exact fun h3 => h h3.1
theorem at_1 {x0 : UInt8} {t : List UInt8} : (atB (x0 :: t) x0.toNat 0).isSome = true ↔ mayC (x0.toNat : Nat) = true ∧ oneB (x0.toNat : Nat) = [x0] := by
  simp only [atB]
  rw [formB_some, sizeC_iff (by decide)]
  have b0 := x0.toNat_lt
  obtain ⟨s1, s2, s3, s4⟩ := start_mod x0
  simp only [Nat.sub_self, List.take_zero, nexts, List.foldl_nil, s1, List.length_cons]
  have em : ∀ m : Nat, m < 256 → mayC (m : Int) = true := by
    intro m hm
    unfold mayC
    simp
    omega
  constructor
  · rintro ⟨⟨h, _⟩, _, h2⟩
    refine ⟨em _ b0, ?_⟩
    unfold oneB
    rw [if_pos (by omega)]
    rw [(u8z_eq (by omega) (by omega)).2 rfl]
  · rintro ⟨_, h⟩
    have hlt : (x0.toNat : Int) < 128 := by
      rcases Int.lt_or_le (x0.toNat : Int) 128 with h1 | h1
      · exact h1
      · unfold oneB at h
        rw [if_neg (by omega), if_pos (by omega)] at h
        simp at h
    refine ⟨⟨by omega, by omega⟩, trivial, em _ (by omega), .inl ⟨by omega, trivial⟩⟩
def c2B (x0 x1 : UInt8) : Int := 64 * ((x0.toNat : Int) - 192) + (x1.toNat : Int) - 128
def c3B (x0 x1 x2 : UInt8) : Int := 64 * (64 * ((x0.toNat : Int) - 224) + (x1.toNat : Int) - 128) + (x2.toNat : Int) - 128
def c4B (x0 x1 x2 x3 : UInt8) : Int := 64 * (64 * (64 * ((x0.toNat : Int) - 240) + (x1.toNat : Int) - 128) + (x2.toNat : Int) - 128) + (x3.toNat : Int) - 128
theorem nextOk_iff {ok : Bool} {x : Int} : nextOk ok x = true ↔ ok = true ∧ x / 64 = 2 := by
  unfold nextOk
  simp
theorem at_2 {x0 x1 : UInt8} {t : List UInt8} : (atB (x0 :: x1 :: t) x0.toNat 1).isSome = true ↔ mayC (c2B x0 x1) = true ∧ oneB (c2B x0 x1) = [x0, x1] := by
  simp only [atB]
  rw [formB_some, sizeC_iff (by decide)]
  have b0 := x0.toNat_lt
  have b1 := x1.toNat_lt
  obtain ⟨s1, s2, s3, s4⟩ := start_mod x0
  simp only [List.drop_succ_cons, List.drop_zero, Nat.reduceSub, List.take_succ_cons, List.take_zero, nexts, List.foldl_nil, List.foldl_cons, s2, List.length_cons]
  rw [next_eq (x := x1) (by omega) (by omega), nextOk_iff]
  obtain ⟨c, hc⟩ : ∃ x, c2B x0 x1 = x := ⟨_, rfl⟩
  have hc' := hc
  unfold c2B at hc'
  rw [hc]
  constructor
  · rintro ⟨⟨h, _⟩, ⟨_, h1⟩, hm, h2⟩
    rw [show ((x0.toNat % 32 : Nat) : Int) * 64 + ((x1.toNat % 64 : Nat) : Int) = c by omega] at hm h2
    refine ⟨hm, ?_⟩
    unfold oneB
    rw [if_neg (by omega), if_pos (by omega), (u8z_eq (x := x0) (by omega) (by omega)).2 (by omega), (u8z_eq (x := x1) (by omega) (by omega)).2 (by omega)]
  · rintro ⟨hm, h⟩
    have hmb := mayC_iff hm
    unfold oneB at h
    split at h
    · simp at h
    · split at h
      · simp only [List.cons.injEq, and_true] at h
        obtain ⟨h1, h2⟩ := h
        rw [u8z_eq (by omega) (by omega)] at h1 h2
        rw [show ((x0.toNat % 32 : Nat) : Int) * 64 + ((x1.toNat % 64 : Nat) : Int) = c by omega]
        exact ⟨⟨by omega, by omega⟩, ⟨rfl, by omega⟩, hm, .inr (.inl ⟨by omega, by omega, trivial⟩)⟩
      · split at h <;> simp at h
theorem at_3 {x0 x1 x2 : UInt8} {t : List UInt8} : (atB (x0 :: x1 :: x2 :: t) x0.toNat 2).isSome = true ↔ mayC (c3B x0 x1 x2) = true ∧ oneB (c3B x0 x1 x2) = [x0, x1, x2] := by
  simp only [atB]
  rw [formB_some, sizeC_iff (by decide)]
  have b0 := x0.toNat_lt
  have b1 := x1.toNat_lt
  have b2 := x2.toNat_lt
  obtain ⟨s1, s2, s3, s4⟩ := start_mod x0
  simp only [List.drop_succ_cons, List.drop_zero, Nat.reduceSub, List.take_succ_cons, List.take_zero, nexts, List.foldl_nil, List.foldl_cons, s3, List.length_cons]
  rw [next_eq (x := x1) (by omega) (by omega), next_eq (x := x2) (by omega) (by omega), nextOk_iff, nextOk_iff]
  obtain ⟨c, hc⟩ : ∃ x, c3B x0 x1 x2 = x := ⟨_, rfl⟩
  have hc' := hc
  unfold c3B at hc'
  rw [hc]
  constructor
  · rintro ⟨⟨h, _⟩, ⟨⟨_, h1⟩, h1'⟩, hm, h2⟩
    rw [show (((x0.toNat % 16 : Nat) : Int) * 64 + ((x1.toNat % 64 : Nat) : Int)) * 64 + ((x2.toNat % 64 : Nat) : Int) = c by omega] at hm h2
    refine ⟨hm, ?_⟩
    unfold oneB
    rw [if_neg (by omega), if_neg (by omega), if_pos (by omega), (u8z_eq (x := x0) (by omega) (by omega)).2 (by omega), (u8z_eq (x := x1) (by omega) (by omega)).2 (by omega), (u8z_eq (x := x2) (by omega) (by omega)).2 (by omega)]
  · rintro ⟨hm, h⟩
    have hmb := mayC_iff hm
    unfold oneB at h
    split at h
    · simp at h
    · split at h
      · simp at h
      · split at h
        · simp only [List.cons.injEq, and_true] at h
          obtain ⟨h1, h2, h3⟩ := h
          rw [u8z_eq (by omega) (by omega)] at h1 h2 h3
          rw [show (((x0.toNat % 16 : Nat) : Int) * 64 + ((x1.toNat % 64 : Nat) : Int)) * 64 + ((x2.toNat % 64 : Nat) : Int) = c by omega]
          exact ⟨⟨by omega, by omega⟩, ⟨⟨rfl, by omega⟩, by omega⟩, hm, .inr (.inr (.inl ⟨by omega, by omega, trivial⟩))⟩
        · simp at h
theorem at_4 {x0 x1 x2 x3 : UInt8} {t : List UInt8} : (atB (x0 :: x1 :: x2 :: x3 :: t) x0.toNat 3).isSome = true ↔ mayC (c4B x0 x1 x2 x3) = true ∧ oneB (c4B x0 x1 x2 x3) = [x0, x1, x2, x3] := by
  simp only [atB]
  rw [formB_some, sizeC_iff (by decide)]
  have b0 := x0.toNat_lt
  have b1 := x1.toNat_lt
  have b2 := x2.toNat_lt
  have b3 := x3.toNat_lt
  obtain ⟨s1, s2, s3, s4⟩ := start_mod x0
  simp only [List.drop_succ_cons, List.drop_zero, Nat.reduceSub, List.take_succ_cons, List.take_zero, nexts, List.foldl_nil, List.foldl_cons, s4, List.length_cons]
  rw [next_eq (x := x1) (by omega) (by omega), next_eq (x := x2) (by omega) (by omega), next_eq (x := x3) (by omega) (by omega), nextOk_iff, nextOk_iff, nextOk_iff]
  obtain ⟨c, hc⟩ : ∃ x, c4B x0 x1 x2 x3 = x := ⟨_, rfl⟩
  have hc' := hc
  unfold c4B at hc'
  rw [hc]
  constructor
  · rintro ⟨⟨h, _⟩, ⟨⟨⟨_, h1⟩, h1'⟩, h1''⟩, hm, h2⟩
    rw [show ((((x0.toNat % 8 : Nat) : Int) * 64 + ((x1.toNat % 64 : Nat) : Int)) * 64 + ((x2.toNat % 64 : Nat) : Int)) * 64 + ((x3.toNat % 64 : Nat) : Int) = c by omega] at hm h2
    have hmb := mayC_iff hm
    refine ⟨hm, ?_⟩
    unfold oneB
    rw [if_neg (by omega), if_neg (by omega), if_neg (by omega), (u8z_eq (x := x0) (by omega) (by omega)).2 (by omega), (u8z_eq (x := x1) (by omega) (by omega)).2 (by omega), (u8z_eq (x := x2) (by omega) (by omega)).2 (by omega), (u8z_eq (x := x3) (by omega) (by omega)).2 (by omega)]
  · rintro ⟨hm, h⟩
    have hmb := mayC_iff hm
    unfold oneB at h
    split at h
    · simp at h
    · split at h
      · simp at h
      · split at h
        · simp at h
        · simp only [List.cons.injEq, and_true] at h
          obtain ⟨h1, h2, h3, h4⟩ := h
          rw [u8z_eq (by omega) (by omega)] at h1 h2 h3 h4
          rw [show ((((x0.toNat % 8 : Nat) : Int) * 64 + ((x1.toNat % 64 : Nat) : Int)) * 64 + ((x2.toNat % 64 : Nat) : Int)) * 64 + ((x3.toNat % 64 : Nat) : Int) = c by omega]
          exact ⟨⟨by omega, by omega⟩, ⟨⟨⟨rfl, by omega⟩, by omega⟩, by omega⟩, hm, .inr (.inr (.inr ⟨by omega, trivial⟩))⟩
/-! The code point that the reference tries at n bytes. -/
def rstart (x0 : Int) (n : Nat) : Int := if n = 2 then x0 - 192 else if n = 3 then x0 - 224 else if n = 4 then x0 - 240 else x0
def rF (b : List UInt8) (s : Int) (i : Nat) : Int := ((b.drop 1).take (i - 1)).foldl (fun c x => 64 * c + (x.toNat : Int) - 128) s
theorem rF_succ {b : List UInt8} {s : Int} {i : Nat} (h1 : 1 ≤ i) (h : i < b.length) : rF b s (i + 1) = 64 * rF b s i + (b[i].toNat : Int) - 128 := by
  unfold rF
  have e : (b.drop 1).take (i + 1 - 1) = (b.drop 1).take (i - 1) ++ [b[i]] := by
    obtain ⟨j, rfl⟩ : ∃ j, i = j + 1 := ⟨i - 1, by omega⟩
    rw [Nat.add_sub_cancel, Nat.add_sub_cancel, List.take_succ_eq_append_getElem (by rw [List.length_drop]; omega), List.getElem_drop]
    congr 3
    omega
  rw [e, List.foldl_append]
  rfl
theorem rF_bound {b : List UInt8} {s : Int} {i : Nat} (hs0 : -255 ≤ s) (hs1 : s ≤ 255) (hi : i ≤ 4) : -100000000 ≤ rF b s i ∧ rF b s i ≤ 100000000 := by
  unfold rF
  obtain ⟨l, hl⟩ : ∃ x, (b.drop 1).take (i - 1) = x := ⟨_, rfl⟩
  have hn : l.length ≤ 3 := by rw [← hl, List.length_take]; omega
  rw [hl]
  match l, hn with
  | [], _ => simp only [List.foldl_nil]; omega
  | [x], _ => have := x.toNat_lt; simp only [List.foldl_nil, List.foldl_cons]; omega
  | [x, y], _ => have := x.toNat_lt; have := y.toNat_lt; simp only [List.foldl_nil, List.foldl_cons]; omega
  | [x, y, z], _ => have := x.toNat_lt; have := y.toNat_lt; have := z.toNat_lt; simp only [List.foldl_nil, List.foldl_cons]; omega
theorem at_ref {b : List UInt8} {k : Nat} (hk : k < 4) (h : k < b.length) : (atB b (b[0].toNat : Nat) k).isSome = true ↔ mayC (rF b (rstart (b[0].toNat : Nat) (k + 1)) (k + 1)) = true ∧ oneB (rF b (rstart (b[0].toNat : Nat) (k + 1)) (k + 1)) = b.take (k + 1) := by
  match k, b, h with
  | 0, x0 :: t, _ => exact at_1
  | 1, x0 :: x1 :: t, _ => exact at_2
  | 2, x0 :: x1 :: x2 :: t, _ => exact at_3
  | 3, x0 :: x1 :: x2 :: x3 :: t, _ => exact at_4
  | k + 4, _, _ => omega
theorem atB_far {b : List UInt8} {x : Int} {k : Nat} (h : b.length ≤ k) : atB b x k = none := by
  cases hh : atB b x k with
  | none => rfl
  | some r =>
    exfalso
    match k, hh with
    | 0, hh => have := formB_n hh; omega
    | 1, hh => have := formB_n hh; omega
    | 2, hh => have := formB_n hh; omega
    | 3, hh => have := formB_n hh; omega
    | k + 4, hh => cases hh
theorem atB_k {b : List UInt8} {x : Int} {k : Nat} {r : Int × Nat} (h : atB b x k = some r) : r.2 = k + 1 := by
  match k, h with
  | 0, h => exact (formB_n h).1
  | 1, h => exact (formB_n h).1
  | 2, h => exact (formB_n h).1
  | 3, h => exact (formB_n h).1
  | k + 4, h => cases h
end Go.Proofs.YtciojggkcmdjiaaDoor
