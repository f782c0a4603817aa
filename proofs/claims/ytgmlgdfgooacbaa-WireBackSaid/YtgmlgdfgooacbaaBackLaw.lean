/-
  What was written is read, thing by thing; of a beginning up to where something is wanting. Plain laws.
-/
import Derived.Test.YtgmlgdfgooacbaaReads
namespace Go.Proofs.Ytgmlgdfgooacbaa
open Go.RowKit

theorem rdNum_back {n : Nat} (hn : n < 18446744073709551616) (rest : List UInt8) : rdNum ⟨Lib.uvarint n ++ rest, 0⟩ = (n, ⟨rest, 0⟩) := by
  simp [rdNum, numGet_back hn]
theorem rdNum_short {n j : Nat} (hn : n < 18446744073709551616) (hj : j < (Lib.uvarint n).length) : rdNum ⟨(Lib.uvarint n).take j, 0⟩ = (0, ⟨(Lib.uvarint n).take j, 4⟩) := by
  simp [rdNum, numGet_short hn hj]
theorem rdCount_back {n : Nat} {m : Int} (hn : n < 18446744073709551616) (hm : (n : Int) ≤ m) (rest : List UInt8) : rdCount ⟨Lib.uvarint n ++ rest, 0⟩ m = (n, ⟨rest, 0⟩) := by
  unfold rdCount rdUpto
  rw [rdNum_back hn, if_neg (by show ¬ m.toNat < n; omega)]
theorem rdCount_short {n j : Nat} {m : Int} (hn : n < 18446744073709551616) (hj : j < (Lib.uvarint n).length) : rdCount ⟨(Lib.uvarint n).take j, 0⟩ m = (0, ⟨(Lib.uvarint n).take j, 4⟩) := by
  unfold rdCount rdUpto
  rw [rdNum_short hn hj, if_neg (by show ¬ m.toNat < 0; omega)]
theorem rdBytes_back {b : List UInt8} {m : Int} (hb : b.length ≤ 300) (hm : (b.length : Int) ≤ m) (rest : List UInt8) : rdBytes ⟨lenBytes b ++ rest, 0⟩ m = (b, ⟨rest, 0⟩) := by
  unfold rdBytes lenBytes
  rw [List.append_assoc, rdCount_back (by omega) hm]
  simp
theorem rdBytes_short {b : List UInt8} {m : Int} {j : Nat} (hb : b.length ≤ 300) (hm : (b.length : Int) ≤ m) (hj : j < (lenBytes b).length) : (rdBytes ⟨(lenBytes b).take j, 0⟩ m).2.e = 4 := by
  unfold lenBytes at hj ⊢
  rw [List.length_append] at hj
  rcases Nat.lt_or_ge j (Lib.uvarint b.length).length with h | h
  · rw [List.take_append_of_le_length (by omega)]
    unfold rdBytes
    rw [rdCount_short (by omega) h]
    simp
  · rw [List.take_append, List.take_of_length_le h]
    unfold rdBytes
    rw [rdCount_back (by omega) hm]
    simp only [if_true]
    rw [if_neg]
    rw [List.length_take]
    omega

/-- What was written is read. -/
theorem thing_back {t : Thing} (hn : t.n < 18446744073709551616) (rest : List UInt8) : rdThing ⟨piece t ++ rest, 0⟩ t = (true, ⟨rest, 0⟩) := by
  have hw := wrap_bounds t.n
  unfold rdThing piece
  by_cases h1 : t.what = 1
  · rw [if_pos h1, if_pos h1]
    unfold rdInt
    rw [rdNum_back (Lib.zigzag_lt hw.1 hw.2), unzig_zig]
    simp
  rw [if_neg h1, if_neg h1]
  by_cases h2 : t.what = 2
  · rw [if_pos h2, if_pos h2]
    unfold rdBool
    rw [rdNum_back (by omega)]
    have hb := bool_mod t.n
    have hlt : ¬ 1 < t.n % 2 := by omega
    simp only [hlt, if_false]
    rcases (show t.n % 2 = 0 ∨ t.n % 2 = 1 from by omega) with e | e
    · rw [e, show ((t.n : Int) % 2 == 1) = false from by simp; omega]; rfl
    · rw [e, show ((t.n : Int) % 2 == 1) = true from by simp; omega]; rfl
  rw [if_neg h2, if_neg h2]
  have h3l := take_le t.b
  by_cases h3 : t.what = 3
  · rw [if_pos h3, if_pos h3, rdBytes_back h3l (by omega)]
    simp
  rw [if_neg h3, if_neg h3]
  by_cases h4 : t.what = 4
  · rw [if_pos h4, if_pos h4, rdBytes_back h3l (Int.le_refl _)]
    simp
  rw [if_neg h4, if_neg h4, rdNum_back hn]
  simp

/-- Of a beginning nothing is read. -/
theorem thing_short {t : Thing} {j : Nat} (hn : t.n < 18446744073709551616) (hj : j < (piece t).length) : (rdThing ⟨(piece t).take j, 0⟩ t).2.e = 4 := by
  have hw := wrap_bounds t.n
  unfold rdThing
  unfold piece at hj ⊢
  by_cases h1 : t.what = 1
  · rw [if_pos h1] at hj ⊢
    rw [if_pos h1]
    unfold rdInt
    rw [rdNum_short (Lib.zigzag_lt hw.1 hw.2) hj]
  rw [if_neg h1] at hj ⊢
  rw [if_neg h1]
  by_cases h2 : t.what = 2
  · rw [if_pos h2] at hj ⊢
    rw [if_pos h2]
    unfold rdBool
    rw [rdNum_short (by omega) hj]
    simp
  rw [if_neg h2] at hj ⊢
  rw [if_neg h2]
  have h3l := take_le t.b
  by_cases h3 : t.what = 3
  · rw [if_pos h3] at hj ⊢
    rw [if_pos h3]
    exact rdBytes_short h3l (by omega) hj
  rw [if_neg h3] at hj ⊢
  rw [if_neg h3]
  by_cases h4 : t.what = 4
  · rw [if_pos h4] at hj ⊢
    rw [if_pos h4]
    exact rdBytes_short h3l (Int.le_refl _) hj
  rw [if_neg h4] at hj ⊢
  rw [if_neg h4, rdNum_short hn hj]

theorem wrote_drop (ts : List Thing) (k : Nat) (h : k < ts.length) : wrote (ts.drop k) = piece ts[k] ++ wrote (ts.drop (k + 1)) := by
  unfold wrote
  rw [List.drop_eq_getElem_cons h]
  rfl
theorem ThingsRd.front {w : World} {S : Nat → Prop} {p : Option Addr} {c k : Nat} {ts : List Thing} (h : ThingsRd w S (.slice p ts.length c) ts) (hk : k ≤ ts.length) : ThingsRd w S (.slice p k c) (ts.take k) := by
  obtain ⟨cs, hr, hE⟩ := h
  exact ⟨cs.take (k * 3), by rw [List.length_take, Nat.min_eq_left hk]; exact Rd.front hr hk, hE.take k⟩
theorem ThingsOk.take {ts : List Thing} (h : ThingsOk ts) (k : Nat) : ThingsOk (ts.take k) := fun t ht => h t (List.mem_of_mem_take ht)
theorem wrote_len : ∀ (ts : List Thing), ThingsOk ts → (wrote ts).length ≤ ts.length * 310
  | [], _ => Nat.zero_le _
  | t :: r, h => by
    have h1 := wrote_len r (fun x hx => h x (List.mem_cons_of_mem _ hx))
    have h2 := piece_len (h t List.mem_cons_self).1
    unfold wrote at h1 ⊢
    rw [List.flatMap_cons, List.length_append, List.length_cons]
    omega
end Go.Proofs.Ytgmlgdfgooacbaa
