/-
  Plain laws: what is typed at one place is one piece; erased again, the table reads as it did. Plain theorems; no condition on the program.
-/
import Derived.Test.YtelaiafpfaohfaaLaw05
namespace Go.Proofs.Ytelaiafpfaohfaa

/-- A text of n code points; m more, typed at a place. -/
def typedRow (n pos m : Nat) : List (Bool × Nat) := posOf ⟨false, 0, pos⟩ ++ posOf ⟨true, 0, m⟩ ++ posOf ⟨false, pos, n - pos⟩
theorem typedRow_zero {n pos : Nat} (h : pos ≤ n) : typedRow n pos 0 = posOf ⟨false, 0, n⟩ := by
  unfold typedRow
  have e : posOf ⟨true, 0, 0⟩ = [] := rfl
  have e2 := posOf_app false 0 pos (n - pos)
  rw [Nat.zero_add, Nat.add_sub_cancel' h] at e2
  rw [e, List.append_nil, e2]
theorem typedRow_len {n pos m : Nat} (h : pos ≤ n) : (typedRow n pos m).length = n + m := by
  unfold typedRow
  simp only [List.length_append, posOf_len]
  omega
theorem typedRow_ins {n pos m : Nat} : (typedRow n pos m).take (pos + m) ++ posOf ⟨true, m, 1⟩ ++ (typedRow n pos m).drop (pos + m) = typedRow n pos (m + 1) := by
  have hl : (posOf ⟨false, 0, pos⟩ ++ posOf ⟨true, 0, m⟩).length = pos + m := by rw [List.length_append, posOf_len, posOf_len]
  have e := posOf_app true 0 m 1
  rw [Nat.zero_add] at e
  unfold typedRow
  rw [← e, ← hl, List.take_left, List.drop_left]
  simp only [List.append_assoc]
theorem typedRow_del {n pos m : Nat} : (typedRow n pos (m + 1)).take (pos + m) ++ (typedRow n pos (m + 1)).drop (pos + m + 1) = typedRow n pos m := by
  have hl : (posOf ⟨false, 0, pos⟩ ++ posOf ⟨true, 0, m⟩).length = pos + m := by rw [List.length_append, posOf_len, posOf_len]
  have hl2 : (posOf ⟨false, 0, pos⟩ ++ posOf ⟨true, 0, m⟩ ++ posOf ⟨true, m, 1⟩).length = pos + m + 1 := by rw [List.length_append, hl, posOf_len]
  have e := posOf_app true 0 m 1
  rw [Nat.zero_add] at e
  unfold typedRow
  rw [← e, ← List.append_assoc, ← hl2, List.drop_left, ← hl, List.append_assoc, List.append_assoc, List.append_assoc, ← List.append_assoc, List.take_left]
  simp only [List.append_assoc]
/-- Behind m typed code points. -/
structure TypedTo (tx : List Int) (pos m : Nat) (t : Tb) (N : Nat) : Prop where
  ok : t.Ok N
  f : t.f = tx
  row : t.row = typedRow tx.length pos m
section
variable {tx : List Int} {pos m N : Nat} {t : Tb}
theorem TypedTo.long (h : TypedTo tx pos m t N) (hp : pos ≤ tx.length) : t.long = tx.length + m := by rw [h.ok.long, h.row, typedRow_len hp]
theorem TypedTo.new (tx : List Int) (pos : Nat) (hp : pos ≤ tx.length) : TypedTo tx pos 0 (Tb.new tx) tx.length := ⟨Tb.new_ok tx, rfl, by rw [Tb.new_row, typedRow_zero hp]⟩
theorem TypedTo.ins (h : TypedTo tx pos m t N) (hp : pos ≤ tx.length) (hs : t.s.length = m) (c : Int) : (t.ins ((pos + m : Nat) : Int) [c]).1 = 0 ∧ TypedTo tx pos (m + 1) (t.ins ((pos + m : Nat) : Int) [c]).2 (N + 1) ∧ (t.ins ((pos + m : Nat) : Int) [c]).2.s.length = m + 1 := by
  have hl : pos + m ≤ t.long := by rw [h.long hp]; omega
  obtain ⟨e1, e2, e3, e4⟩ := Tb.ins_s hl [c]
  refine ⟨e4, ⟨Tb.ins_ok h.ok _ _, e2.trans h.f, ?_⟩, by rw [e1, List.length_append, hs]; rfl⟩
  rw [Tb.ins_row h.ok hl, h.row, hs]
  exact typedRow_ins
theorem TypedTo.del (h : TypedTo tx pos (m + 1) t N) (hp : pos ≤ tx.length) : (t.del ((pos + m : Nat) : Int) ((1 : Nat) : Int)).1 = 0 ∧ TypedTo tx pos m (t.del ((pos + m : Nat) : Int) ((1 : Nat) : Int)).2 N := by
  have hl : pos + m + 1 ≤ t.long := by rw [h.long hp]; omega
  obtain ⟨e1, e2, e3, e4⟩ := Tb.del_s (t := t) (pos := pos + m) (m := 1) hl
  refine ⟨e4, Tb.del_ok h.ok _ _, e2.trans h.f, ?_⟩
  rw [Tb.del_row h.ok hl, h.row]
  exact typedRow_del
theorem TypedTo.text (h : TypedTo tx pos 0 t N) (hp : pos ≤ tx.length) : t.text = tx := by
  unfold Tb.text
  rw [h.row, typedRow_zero hp, h.f]
  have e : (posOf ⟨false, 0, tx.length⟩).map (charAt tx t.s) = (posOf ⟨false, 0, tx.length⟩).map (charAt tx []) := by
    apply List.map_congr_left
    intro x hx
    obtain ⟨k, _, rfl⟩ := List.mem_map.1 hx
    rfl
  rw [e]
  exact charAt_first tx
theorem TypedTo.one (h : TypedTo tx pos 0 t N) (hp : pos ≤ tx.length) : t.ps.length = min tx.length 1 := by
  rw [h.ok.norm, h.row, typedRow_zero hp]
  have e := (Tb.new_ok tx).norm
  rw [Tb.new_row] at e
  rw [← e]
  show (newL tx).length = _
  unfold newL
  split <;> simp <;> omega
theorem normL_one (s : Bool) (a n : Nat) (h : n ≠ 0) (out : List Pc) : ((posOf ⟨s, a, n⟩).map unitOf).foldl putL out = putL out ⟨s, a, n⟩ := by
  obtain ⟨m, rfl⟩ : ∃ m, n = m + 1 := ⟨n - 1, by omega⟩
  exact putL_units s a m out
theorem typed_norm (n pos m : Nat) (hp : pos ≤ n) : (normL (typedRow n pos m)).length ≤ 3 ∧ (normL (typedRow n pos m)).countP (·.second) = min m 1 := by
  have z : ∀ s a, posOf ⟨s, a, 0⟩ = [] := fun _ _ => rfl
  by_cases h1 : pos = 0
  · subst h1
    by_cases h2 : m = 0
    · subst h2
      rw [typedRow_zero hp]
      unfold normL
      by_cases h3 : n = 0
      · subst h3; simp [z]
      · rw [normL_one _ _ _ h3]; simp [putL_nil]
    · have hm : min m 1 = 1 := by omega
      unfold typedRow normL
      rw [z, List.nil_append, List.map_append, List.foldl_append, normL_one _ _ _ h2, hm]
      by_cases h3 : n - 0 = 0
      · rw [h3, z]; simp [putL_nil]
      · rw [normL_one _ _ _ h3]; simp [putL]
  · by_cases h2 : m = 0
    · subst h2
      rw [typedRow_zero hp]
      unfold normL
      rw [normL_one _ _ _ (by omega)]; simp [putL_nil]
    · have hm : min m 1 = 1 := by omega
      unfold typedRow normL
      rw [List.map_append, List.map_append, List.foldl_append, List.foldl_append, normL_one _ _ _ h1, normL_one _ _ _ h2, hm]
      by_cases h3 : n - pos = 0
      · rw [h3, z]; simp [putL]
      · rw [normL_one _ _ _ h3]; simp [putL]
theorem TypedTo.pieces (h : TypedTo tx pos m t N) (hp : pos ≤ tx.length) : t.ps.length ≤ 3 ∧ t.ps.countP (·.second) = min m 1 := by
  rw [h.ok.norm, h.row]
  exact typed_norm _ _ _ hp
end
end Go.Proofs.Ytelaiafpfaohfaa
