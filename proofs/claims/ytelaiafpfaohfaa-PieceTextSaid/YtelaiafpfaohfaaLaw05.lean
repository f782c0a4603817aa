/-
  Plain laws of a table: where its code points stand; what Insert, Delete, Read, Flatten do to that row. Plain theorems; no condition on the program.
-/
import Derived.Test.YtelaiafpfaohfaaSame5
namespace Go.Proofs.Ytelaiafpfaohfaa

/-- Where a piece's code points stand. -/
def posOf (p : Pc) : List (Bool × Nat) := (List.range' p.at_ p.len).map fun k => (p.second, k)
def posL (ps : List Pc) : List (Bool × Nat) := ps.flatMap posOf
def unitOf (x : Bool × Nat) : Pc := ⟨x.1, x.2, 1⟩
def normL (xs : List (Bool × Nat)) : List Pc := (xs.map unitOf).foldl putL []
def charAt (f s : List Int) (x : Bool × Nat) : Int := (if x.1 then s else f).getD x.2 0

theorem posOf_len (p : Pc) : (posOf p).length = p.len := by simp [posOf]
theorem posL_app (l r : List Pc) : posL (l ++ r) = posL l ++ posL r := by simp [posL]
theorem posL_cons (p : Pc) (r : List Pc) : posL (p :: r) = posOf p ++ posL r := rfl
theorem posL_len : ∀ (ps : List Pc), (posL ps).length = tot ps
  | [] => rfl
  | p :: r => by rw [posL_cons, List.length_append, posOf_len, posL_len r, tot_cons]
theorem posOf_app (s : Bool) (a m k : Nat) : posOf ⟨s, a, m⟩ ++ posOf ⟨s, a + m, k⟩ = posOf ⟨s, a, m + k⟩ := by
  unfold posOf
  rw [← List.map_append, ← List.range'_append_1]
theorem partL_pos : ∀ (ps : List Pc) (pos : Nat), posL (partL ps pos).1 = (posL ps).take pos ∧ posL (partL ps pos).2 = (posL ps).drop pos
  | [], pos => by simp [partL, posL]
  | p :: r, pos => by
    unfold partL
    by_cases h1 : pos < p.len
    · rw [if_pos h1]
      by_cases h2 : pos = 0
      · rw [if_pos h2, h2]
        simp [posL]
      · rw [if_neg h2]
        have e : posOf p = posOf ⟨p.second, p.at_, pos⟩ ++ posOf ⟨p.second, p.at_ + pos, p.len - pos⟩ := by
          rw [posOf_app, Nat.add_sub_cancel' (Nat.le_of_lt h1)]
        have hl : (posOf ⟨p.second, p.at_, pos⟩).length = pos := posOf_len _
        simp only [posL_cons]
        rw [e, List.append_assoc]
        generalize posOf ⟨p.second, p.at_, pos⟩ = u at hl ⊢
        subst hl
        constructor
        · rw [List.take_left]
          simp [posL]
        · rw [List.drop_left]
    · rw [if_neg h1]
      obtain ⟨i1, i2⟩ := partL_pos r (pos - p.len)
      simp only [posL_cons]
      rw [i1, i2]
      have hl := posOf_len p
      constructor
      · rw [List.take_append, List.take_of_length_le (l := posOf p) (by omega), hl]
      · rw [List.drop_append, List.drop_of_length_le (l := posOf p) (by omega), hl, List.nil_append]
theorem putL_pos (out : List Pc) (p : Pc) : posL (putL out p) = posL out ++ posOf p := by
  rcases List.eq_nil_or_concat out with rfl | ⟨l, z, rfl⟩
  · simp [putL_nil, posL]
  · rw [List.concat_eq_append, putL_snoc]
    split
    · rename_i h
      obtain ⟨h1, h2⟩ := h
      rw [posL_app, posL_app, List.append_assoc]
      congr 1
      simp only [posL, List.flatMap_cons, List.flatMap_nil, List.append_nil]
      have e := posOf_app z.second z.at_ z.len p.len
      rw [h2] at e
      rw [← e]
      congr 2
      rw [h1]
    · rw [posL_app]
      congr 1
      simp [posL]
theorem fold_pos : ∀ (l out : List Pc), posL (l.foldl putL out) = posL out ++ posL l
  | [], out => by simp [posL]
  | p :: r, out => by rw [List.foldl_cons, fold_pos r, putL_pos, List.append_assoc]; rfl
theorem putL_two (out : List Pc) (s : Bool) (a m k : Nat) : putL (putL out ⟨s, a, m⟩) ⟨s, a + m, k⟩ = putL out ⟨s, a, m + k⟩ := by
  rcases List.eq_nil_or_concat out with rfl | ⟨l, z, rfl⟩
  · rw [putL_nil, putL_nil, show ([⟨s, a, m⟩] : List Pc) = [] ++ [⟨s, a, m⟩] from rfl, putL_snoc, if_pos ⟨rfl, rfl⟩]
    rfl
  · rw [List.concat_eq_append, putL_snoc, putL_snoc]
    by_cases h : z.second = s ∧ z.at_ + z.len = a
    · rw [if_pos h, if_pos h, putL_snoc, if_pos ⟨h.1, by show z.at_ + (z.len + m) = a + m; omega⟩]
      show l ++ [(⟨z.second, z.at_, z.len + m + k⟩ : Pc)] = l ++ [⟨z.second, z.at_, z.len + (m + k)⟩]
      rw [Nat.add_assoc]
    · rw [if_neg h, if_neg h, putL_snoc, if_pos ⟨rfl, rfl⟩]
theorem putL_units (s : Bool) (a : Nat) : ∀ (n : Nat) (out : List Pc), ((posOf ⟨s, a, n + 1⟩).map unitOf).foldl putL out = putL out ⟨s, a, n + 1⟩
  | 0, out => rfl
  | n + 1, out => by
    rw [← posOf_app s a (n + 1) 1, List.map_append, List.foldl_append, putL_units s a n out, ← putL_two out s a (n + 1) 1]
    rfl
theorem fold_units : ∀ (ps out : List Pc), (∀ p ∈ ps, 0 < p.len) → ((posL ps).map unitOf).foldl putL out = ps.foldl putL out
  | [], _, _ => rfl
  | ⟨s, a, n⟩ :: r, out, h => by
    have h0 : 0 < n := h ⟨s, a, n⟩ (by simp)
    obtain ⟨m, rfl⟩ : ∃ m, n = m + 1 := ⟨n - 1, by omega⟩
    rw [posL_cons, List.map_append, List.foldl_append, putL_units, fold_units r _ (fun p hp => h p (by simp [hp]))]
    rfl
theorem normL_posL {ps : List Pc} (h : ∀ p ∈ ps, 0 < p.len) : normL (posL ps) = ps.foldl putL [] := fold_units ps [] h
theorem putL_pos_len {out : List Pc} {p : Pc} (h : ∀ p ∈ out, 0 < p.len) (hp : 0 < p.len) : ∀ x ∈ putL out p, 0 < x.len := by
  rcases List.eq_nil_or_concat out with rfl | ⟨l, z, rfl⟩
  · intro x hx
    rw [putL_nil] at hx
    obtain rfl := List.mem_singleton.1 hx
    exact hp
  · rw [List.concat_eq_append] at h ⊢
    rw [putL_snoc]
    intro x hx
    split at hx
    · rcases List.mem_append.1 hx with hx | hx
      · exact h x (by simp [hx])
      · obtain rfl := List.mem_singleton.1 hx
        show 0 < z.len + p.len
        omega
    · rcases List.mem_append.1 hx with hx | hx
      · exact h x hx
      · obtain rfl := List.mem_singleton.1 hx
        exact hp
theorem fold_pos_len : ∀ (l out : List Pc), (∀ p ∈ out, 0 < p.len) → (∀ p ∈ l, 0 < p.len) → ∀ p ∈ l.foldl putL out, 0 < p.len
  | [], _, h, _ => h
  | p :: r, out, h, hl => fold_pos_len r _ (putL_pos_len h (hl p (by simp))) fun x hx => hl x (by simp [hx])
theorem units_len (xs : List (Bool × Nat)) : ∀ p ∈ xs.map unitOf, 0 < p.len := by
  intro p hp
  obtain ⟨x, _, rfl⟩ := List.mem_map.1 hp
  exact Nat.one_pos
theorem normL_len (xs : List (Bool × Nat)) : ∀ p ∈ normL xs, 0 < p.len := fold_pos_len _ [] (by simp) (units_len xs)
theorem posL_units : ∀ (xs : List (Bool × Nat)), posL (xs.map unitOf) = xs
  | [] => rfl
  | x :: r => by rw [List.map_cons, posL_cons, posL_units r]; rfl
theorem posL_normL (xs : List (Bool × Nat)) : posL (normL xs) = xs := by
  unfold normL
  rw [fold_pos, posL_units]
  rfl
theorem fold_normL {l : List Pc} (h : ∀ p ∈ l, 0 < p.len) : l.foldl putL [] = normL (posL l) := (normL_posL h).symm

/-- No neighbours follow each other. -/
def Gaps (ps : List Pc) : Prop := ∀ k (h : k + 1 < ps.length), ¬ (ps[k].second = ps[k + 1].second ∧ ps[k].at_ + ps[k].len = ps[k + 1].at_)
theorem putL_gaps {out : List Pc} {p : Pc} (h : Gaps out) : Gaps (putL out p) := by
  rcases List.eq_nil_or_concat out with rfl | ⟨l, z, rfl⟩
  · rw [putL_nil]
    intro k hk
    simp at hk
  · rw [List.concat_eq_append] at h ⊢
    rw [putL_snoc]
    split
    · intro k hk
      simp only [List.length_append, List.length_singleton] at hk
      have h1 := h k (by simp only [List.length_append, List.length_singleton]; omega)
      rw [List.getElem_append_left (by omega)] at h1 ⊢
      by_cases hk1 : k + 1 < l.length
      · rw [List.getElem_append_left hk1] at h1 ⊢
        exact h1
      · rw [List.getElem_append_right (by omega)] at h1 ⊢
        simp only [List.getElem_singleton] at h1 ⊢
        exact h1
    · rename_i hne
      intro k hk
      simp only [List.length_append, List.length_singleton] at hk
      rw [List.getElem_append_left (by simp only [List.length_append, List.length_singleton]; omega)]
      by_cases hk1 : k + 1 < (l ++ [z]).length
      · rw [List.getElem_append_left hk1]
        exact h k hk1
      · have hkl : k = l.length := by simp only [List.length_append, List.length_singleton] at hk1; omega
        subst hkl
        rw [List.getElem_append_right (by omega), List.getElem_append_right (by simp)]
        simpa using hne
theorem fold_gaps : ∀ (l out : List Pc), Gaps out → Gaps (l.foldl putL out)
  | [], _, h => h
  | _ :: r, _, h => fold_gaps r _ (putL_gaps h)
theorem normL_gaps (xs : List (Bool × Nat)) : Gaps (normL xs) := fold_gaps _ [] (by intro k hk; simp at hk)

theorem partL_pos_len : ∀ (ps : List Pc) (pos : Nat), (∀ p ∈ ps, 0 < p.len) → (∀ p ∈ (partL ps pos).1, 0 < p.len) ∧ ∀ p ∈ (partL ps pos).2, 0 < p.len
  | [], pos, _ => by simp [partL]
  | p :: r, pos, h => by
    have hr : ∀ x ∈ r, 0 < x.len := fun x hx => h x (by simp [hx])
    unfold partL
    by_cases h1 : pos < p.len
    · rw [if_pos h1]
      by_cases h2 : pos = 0
      · rw [if_pos h2]
        exact ⟨by simp, h⟩
      · rw [if_neg h2]
        refine ⟨fun x hx => ?_, fun x hx => ?_⟩
        · obtain rfl := List.mem_singleton.1 hx
          show 0 < pos
          omega
        · rcases List.mem_cons.1 hx with rfl | hx
          · show 0 < p.len - pos
            omega
          · exact hr x hx
    · rw [if_neg h1]
      obtain ⟨i1, i2⟩ := partL_pos_len r (pos - p.len) hr
      refine ⟨fun x hx => ?_, i2⟩
      rcases List.mem_cons.1 hx with rfl | hx
      · exact h _ (by simp)
      · exact i1 x hx
theorem partL_lens : ∀ (ps : List Pc) (pos : Nat), (partL ps pos).1.length + (partL ps pos).2.length ≤ ps.length + 1
  | [], pos => by simp [partL]
  | p :: r, pos => by
    unfold partL
    by_cases h1 : pos < p.len
    · rw [if_pos h1]
      by_cases h2 : pos = 0
      · rw [if_pos h2]; simp
      · rw [if_neg h2]; simp; omega
    · rw [if_neg h1]
      have := partL_lens r (pos - p.len)
      simp only [List.length_cons]
      omega
theorem insertL_row {ps : List Pc} {pos n m : Nat} (h : ∀ p ∈ ps, 0 < p.len) (hm : 0 < m) :
    insertL ps pos n m = normL ((posL ps).take pos ++ posOf ⟨true, n, m⟩ ++ (posL ps).drop pos) := by
  unfold insertL joinL
  obtain ⟨h1, h2⟩ := partL_pos_len ps pos h
  obtain ⟨e1, e2⟩ := partL_pos ps pos
  rw [fold_normL]
  · congr 1
    simp only [List.flatten_cons, List.flatten_nil, List.append_nil]
    rw [posL_app, posL_app, e1, e2, List.append_assoc]
    simp [posL]
  · intro p hp
    simp only [List.flatten_cons, List.flatten_nil, List.append_nil, List.mem_append, List.mem_singleton] at hp
    rcases hp with hp | rfl | hp
    · exact h1 p hp
    · exact hm
    · exact h2 p hp
theorem deleteL_row {ps : List Pc} {pos n : Nat} (h : ∀ p ∈ ps, 0 < p.len) :
    deleteL ps pos n = normL ((posL ps).take pos ++ (posL ps).drop (pos + n)) := by
  unfold deleteL joinL
  obtain ⟨h1, h2⟩ := partL_pos_len ps pos h
  obtain ⟨h3, h4⟩ := partL_pos_len (partL ps pos).2 n h2
  obtain ⟨e1, e2⟩ := partL_pos ps pos
  obtain ⟨e3, e4⟩ := partL_pos (partL ps pos).2 n
  rw [fold_normL]
  · congr 1
    simp only [List.flatten_cons, List.flatten_nil, List.append_nil]
    rw [posL_app, e1, e4, e2, List.drop_drop]
  · intro p hp
    simp only [List.flatten_cons, List.flatten_nil, List.append_nil, List.mem_append] at hp
    rcases hp with hp | hp
    · exact h1 p hp
    · exact h4 p hp
theorem joinL_len (rows : List (List Pc)) : (joinL rows).length ≤ rows.flatten.length := by
  have := fold_len rows.flatten []
  simpa [joinL] using this
theorem insertL_len (ps : List Pc) (pos n m : Nat) : (insertL ps pos n m).length ≤ ps.length + 2 := by
  have h1 := joinL_len [(partL ps pos).1, [⟨true, n, m⟩], (partL ps pos).2]
  have h2 := partL_lens ps pos
  simp at h1
  unfold insertL
  omega
theorem partL_one {ps : List Pc} {n : Nat} (hn : 0 < n) (h : ∀ p ∈ ps, 0 < p.len) (h0 : ps ≠ []) : 1 ≤ (partL ps n).1.length := by
  match ps, h0 with
  | p :: r, _ =>
    have hp := h p (by simp)
    unfold partL
    by_cases h1 : n < p.len
    · rw [if_pos h1, if_neg (by omega)]; simp
    · rw [if_neg h1]; simp
theorem deleteL_len {ps : List Pc} {pos n : Nat} (h : ∀ p ∈ ps, 0 < p.len) (hn : 0 < n) : (deleteL ps pos n).length ≤ ps.length + 1 := by
  have h1 := joinL_len [(partL ps pos).1, (partL (partL ps pos).2 n).2]
  have h2 := partL_lens ps pos
  have h3 := partL_lens (partL ps pos).2 n
  obtain ⟨h4, h5⟩ := partL_pos_len ps pos h
  simp at h1
  unfold deleteL
  by_cases h0 : (partL ps pos).2 = []
  · rw [h0] at h1 h2 ⊢
    simp [partL] at h1 h2 ⊢
    omega
  · have := partL_one hn h5 h0
    omega

theorem hasL_pos {f s : List Int} {p : Pc} (h : p.at_ + p.len ≤ (if p.second then s else f).length) : hasL f s p = (posOf p).map (charAt f s) := by
  apply List.ext_getElem
  · rw [hasL_len h, List.length_map, posOf_len]
  · intro k h1 h2
    rw [hasL_len h] at h1
    simp only [hasL, posOf, List.getElem_map, List.getElem_range', charAt, List.getElem_take, List.getElem_drop, Nat.one_mul]
    rw [List.getD_eq_getElem?_getD, List.getElem?_eq_getElem (by omega)]
    rfl
theorem flat_pos {f s : List Int} : ∀ (ps : List Pc), PcsIn f s ps → ps.flatMap (hasL f s) = (posL ps).map (charAt f s)
  | [], _ => rfl
  | p :: r, h => by
    rw [List.flatMap_cons, posL_cons, List.map_append, hasL_pos (h p (by simp)), flat_pos r fun x hx => h x (by simp [hx])]
theorem readL_pos {f s : List Int} {ps : List Pc} (h : PcsIn f s ps) (pos n : Nat) : readL f s ps pos n = (((posL ps).drop pos).take n).map (charAt f s) := by
  unfold readL
  rw [flat_pos _ (partL_in _ n (partL_in ps pos h).2).1, (partL_pos _ n).1, (partL_pos ps pos).2]
/-- Every place of the row lies in its buffer. -/
def RowIn (f s : List Int) (xs : List (Bool × Nat)) : Prop := ∀ x ∈ xs, x.2 < (if x.1 then s else f).length
theorem PcsIn.row {f s : List Int} {ps : List Pc} (h : PcsIn f s ps) : RowIn f s (posL ps) := by
  intro x hx
  obtain ⟨p, hp, hx⟩ := List.mem_flatMap.1 hx
  obtain ⟨k, hk, rfl⟩ := List.mem_map.1 hx
  have := h p hp
  rw [List.mem_range'_1] at hk
  show k < (if p.second then s else f).length
  omega
theorem RowIn.pcs {f s : List Int} {ps : List Pc} (h : RowIn f s (posL ps)) (h0 : ∀ p ∈ ps, 0 < p.len) : PcsIn f s ps := by
  intro p hp
  have hl := h0 p hp
  have := h (p.second, p.at_ + p.len - 1) (List.mem_flatMap.2 ⟨p, hp, List.mem_map.2 ⟨p.at_ + p.len - 1, by rw [List.mem_range'_1]; omega, rfl⟩⟩)
  have this : p.at_ + p.len - 1 < (if p.second then s else f).length := this
  omega
theorem RowIn.sub {f s : List Int} {xs ys : List (Bool × Nat)} (h : RowIn f s xs) (hs : ∀ y ∈ ys, y ∈ xs) : RowIn f s ys := fun y hy => h y (hs y hy)
theorem RowIn.more {f s l : List Int} {xs : List (Bool × Nat)} (h : RowIn f s xs) : RowIn f (s ++ l) xs := by
  intro x hx
  have := h x hx
  cases h1 : x.1 <;> simp [h1] at this ⊢ <;> omega
theorem charAt_more {f s l : List Int} {xs : List (Bool × Nat)} (h : RowIn f s xs) : xs.map (charAt f (s ++ l)) = xs.map (charAt f s) := by
  apply List.map_congr_left
  intro x hx
  have := h x hx
  unfold charAt
  cases h1 : x.1
  · rfl
  · simp only [h1, if_true] at this ⊢
    rw [List.getD_eq_getElem?_getD, List.getD_eq_getElem?_getD, List.getElem?_append_left this]
theorem charAt_new (f s l : List Int) : (posOf ⟨true, s.length, l.length⟩).map (charAt f (s ++ l)) = l := by
  apply List.ext_getElem
  · rw [List.length_map, posOf_len]
  · intro k h1 h2
    simp only [posOf, List.getElem_map, List.getElem_range', charAt, if_true, Nat.one_mul]
    rw [List.getD_eq_getElem?_getD, List.getElem?_append_right (by omega), Nat.add_sub_cancel_left, List.getElem?_eq_getElem h2]
    rfl
theorem charAt_first (f : List Int) : (posOf ⟨false, 0, f.length⟩).map (charAt f []) = f := by
  apply List.ext_getElem
  · rw [List.length_map, posOf_len]
  · intro k h1 h2
    simp only [posOf, List.getElem_map, List.getElem_range', charAt, Bool.false_eq_true, if_false, Nat.one_mul, Nat.zero_add]
    rw [List.getD_eq_getElem?_getD, List.getElem?_eq_getElem h2]
    rfl

/-- A table: both buffers, the pieces, how long the text is. -/
structure Tb where
  f : List Int
  s : List Int
  ps : List Pc
  long : Nat
namespace Tb
def row (t : Tb) : List (Bool × Nat) := posL t.ps
def text (t : Tb) : List Int := t.row.map (charAt t.f t.s)
def new (l : List Int) : Tb := ⟨l, [], newL l, l.length⟩
def ins (t : Tb) (pos : Int) (l : List Int) : Int × Tb :=
  if 0 ≤ pos ∧ pos ≤ t.long then (0, if l.length = 0 then t else ⟨t.f, t.s ++ l, insertL t.ps pos.toNat t.s.length l.length, t.long + l.length⟩) else (30, t)
def del (t : Tb) (pos n : Int) : Int × Tb :=
  if inText t.long pos n then (0, if n = 0 then t else ⟨t.f, t.s, deleteL t.ps pos.toNat n.toNat, t.long - n.toNat⟩) else (30, t)
def read (t : Tb) (pos n : Int) : List Int × Int :=
  if inText t.long pos n then (readL t.f t.s t.ps pos.toNat n.toNat, 0) else ([], 30)
def flat (t : Tb) : Tb := new t.text
/-- A table as calls leave it, no longer than n. -/
structure Ok (t : Tb) (n : Nat) : Prop where
  row : RowIn t.f t.s t.row
  norm : t.ps = normL t.row
  long : t.long = t.row.length
  f : t.f.length ≤ n
  s : t.s.length ≤ n
  n : t.long ≤ n
variable {t : Tb} {n : Nat}
theorem Ok.lens (h : t.Ok n) : ∀ p ∈ t.ps, 0 < p.len := by rw [h.norm]; exact normL_len _
theorem Ok.pin (h : t.Ok n) : PcsIn t.f t.s t.ps := RowIn.pcs h.row h.lens
theorem Ok.tot (h : t.Ok n) : tot t.ps = t.long := by rw [h.long]; exact (posL_len _).symm
theorem Ok.gaps (h : t.Ok n) : Gaps t.ps := by rw [h.norm]; exact normL_gaps _
theorem len_tot : ∀ (ps : List Pc), (∀ p ∈ ps, 0 < p.len) → ps.length ≤ Proofs.Ytelaiafpfaohfaa.tot ps
  | [], _ => Nat.le_refl _
  | p :: r, h => by
    have h1 := len_tot r fun x hx => h x (by simp [hx])
    have h2 := h p (by simp)
    rw [tot_cons, List.length_cons]
    omega
theorem Ok.pcs (h : t.Ok n) : t.ps.length ≤ n := Nat.le_trans (len_tot _ h.lens) (by rw [h.tot]; exact h.n)
theorem Ok.mono (h : t.Ok n) {m : Nat} (hm : n ≤ m) : t.Ok m := ⟨h.row, h.norm, h.long, Nat.le_trans h.f hm, Nat.le_trans h.s hm, Nat.le_trans h.n hm⟩
theorem Ok.text_len (h : t.Ok n) : t.text.length = t.long := by unfold text; rw [List.length_map, h.long]
theorem new_row (l : List Int) : (new l).row = posOf ⟨false, 0, l.length⟩ := by
  unfold row new newL
  by_cases h : l.length = 0
  · simp [h, posL, posOf]
  · simp [h, posL]
theorem new_text (l : List Int) : (new l).text = l := by
  unfold text
  rw [new_row]
  exact charAt_first l
theorem new_ok (l : List Int) : (new l).Ok l.length := by
  refine ⟨?_, ?_, ?_, Nat.le_refl _, Nat.zero_le _, Nat.le_refl _⟩
  · rw [new_row]
    intro x hx
    obtain ⟨k, hk, rfl⟩ := List.mem_map.1 hx
    rw [List.mem_range'_1] at hk
    have hk2 : k < 0 + l.length := hk.2
    show k < l.length
    omega
  · rw [new_row]
    show newL l = _
    unfold newL
    by_cases h : l.length = 0
    · rw [if_pos h, h]; rfl
    · rw [if_neg h]
      obtain ⟨m, hm⟩ : ∃ m, l.length = m + 1 := ⟨l.length - 1, by omega⟩
      rw [hm]
      unfold normL
      rw [putL_units]
      rfl
  · rw [new_row, posOf_len]; rfl
theorem ins_row (h : t.Ok n) {pos : Nat} (hp : pos ≤ t.long) (l : List Int) : (t.ins pos l).2.row = t.row.take pos ++ posOf ⟨true, t.s.length, l.length⟩ ++ t.row.drop pos := by
  unfold ins
  rw [if_pos ⟨by omega, by omega⟩]
  by_cases h0 : l.length = 0
  · simp [h0, posOf]
  · simp only [h0, if_false, Int.toNat_natCast]
    show posL (insertL _ _ _ _) = _
    rw [insertL_row h.lens (by omega), posL_normL]
    rfl
theorem ins_s {pos : Nat} (hp : pos ≤ t.long) (l : List Int) : (t.ins pos l).2.s = t.s ++ l ∧ (t.ins pos l).2.f = t.f ∧ (t.ins pos l).2.long = t.long + l.length ∧ (t.ins pos l).1 = 0 := by
  unfold ins
  rw [if_pos ⟨by omega, by omega⟩]
  by_cases h0 : l.length = 0
  · simp [h0, List.eq_nil_of_length_eq_zero h0]
  · simp [h0]
theorem ins_no {pos : Int} (hp : ¬ (0 ≤ pos ∧ pos ≤ t.long)) (l : List Int) : t.ins pos l = (30, t) := if_neg hp
theorem ins_ok (h : t.Ok n) (pos : Int) (l : List Int) : (t.ins pos l).2.Ok (n + l.length) := by
  by_cases hp : 0 ≤ pos ∧ pos ≤ t.long
  · obtain ⟨k, rfl⟩ : ∃ k : Nat, pos = k := ⟨pos.toNat, by omega⟩
    have hk : k ≤ t.long := by omega
    obtain ⟨e1, e2, e3, _⟩ := ins_s hk l
    have er := ins_row h hk l
    have hl := h.long
    refine ⟨?_, ?_, ?_, ?_, ?_, ?_⟩
    · rw [e1, e2, er]
      intro x hx
      rw [List.mem_append, List.mem_append] at hx
      rcases hx with (hx | hx) | hx
      · exact h.row.more x (List.mem_of_mem_take hx)
      · obtain ⟨k, hk, rfl⟩ := List.mem_map.1 hx
        rw [List.mem_range'_1] at hk
        have hk2 : k < t.s.length + l.length := hk.2
        simp
        omega
      · exact h.row.more x (List.mem_of_mem_drop hx)
    · rw [er]
      unfold ins
      rw [if_pos hp]
      by_cases h0 : l.length = 0
      · have := h.norm
        simp [h0, posOf]
        exact this
      · simp only [h0, if_false, Int.toNat_natCast]
        exact insertL_row h.lens (by omega)
    · rw [e3, er]
      simp only [List.length_append, List.length_take, List.length_drop, posOf_len]
      omega
    · rw [e2]; exact Nat.le_trans h.f (by omega)
    · rw [e1, List.length_append]; have := h.s; omega
    · rw [e3]; have := h.n; omega
  · rw [ins_no hp]
    exact h.mono (by omega)
theorem ins_text (h : t.Ok n) {pos : Nat} (hp : pos ≤ t.long) (l : List Int) : (t.ins pos l).2.text = t.text.take pos ++ l ++ t.text.drop pos := by
  obtain ⟨e1, e2, e3, _⟩ := ins_s hp l
  unfold text
  rw [e1, e2, ins_row h hp, List.map_append, List.map_append, charAt_new, charAt_more (h.row.sub fun y hy => List.mem_of_mem_take hy), charAt_more (h.row.sub fun y hy => List.mem_of_mem_drop hy), List.map_take, List.map_drop]
theorem inText_iff {long : Nat} {pos n : Int} : inText long pos n = true ↔ ∃ p m : Nat, pos = p ∧ n = m ∧ p + m ≤ long := by
  unfold inText
  rw [decide_eq_true_iff]
  constructor
  · rintro ⟨h1, h2, h3, h4⟩
    exact ⟨pos.toNat, n.toNat, by omega, by omega, by omega⟩
  · rintro ⟨p, m, rfl, rfl, h⟩
    omega
theorem del_row (h : t.Ok n) {pos m : Nat} (hp : pos + m ≤ t.long) : (t.del pos m).2.row = t.row.take pos ++ t.row.drop (pos + m) := by
  unfold del
  rw [if_pos (inText_iff.2 ⟨pos, m, rfl, rfl, hp⟩)]
  by_cases h0 : m = 0
  · simp [h0]
  · have h1 : ¬ (m : Int) = 0 := by omega
    simp only [h1, if_false, Int.toNat_natCast]
    show posL (deleteL _ _ _) = _
    rw [deleteL_row h.lens, posL_normL]
    rfl
theorem del_s {pos m : Nat} (hp : pos + m ≤ t.long) : (t.del pos m).2.s = t.s ∧ (t.del pos m).2.f = t.f ∧ (t.del pos m).2.long = t.long - m ∧ (t.del pos m).1 = 0 := by
  unfold del
  rw [if_pos (inText_iff.2 ⟨pos, m, rfl, rfl, hp⟩)]
  by_cases h0 : m = 0
  · simp [h0]
  · have h1 : ¬ (m : Int) = 0 := by omega
    simp [h0]
theorem del_no {pos m : Int} (hp : inText t.long pos m = false) : t.del pos m = (30, t) := by unfold del; rw [hp]; rfl
theorem del_ok (h : t.Ok n) (pos m : Int) : (t.del pos m).2.Ok n := by
  cases hp : inText t.long pos m with
  | true =>
    obtain ⟨p, k, rfl, rfl, hk⟩ := inText_iff.1 hp
    obtain ⟨e1, e2, e3, _⟩ := del_s hk
    have er := del_row h hk
    have hl := h.long
    refine ⟨?_, ?_, ?_, ?_, ?_, ?_⟩
    · rw [e1, e2, er]
      intro x hx
      rw [List.mem_append] at hx
      rcases hx with hx | hx
      · exact h.row x (List.mem_of_mem_take hx)
      · exact h.row x (List.mem_of_mem_drop hx)
    · rw [er]
      unfold del
      rw [if_pos hp]
      by_cases h0 : k = 0
      · have := h.norm
        simp [h0]
        exact this
      · have h1 : ¬ (k : Int) = 0 := by omega
        simp only [h1, if_false, Int.toNat_natCast]
        exact deleteL_row h.lens
    · rw [e3, er]
      simp only [List.length_append, List.length_take, List.length_drop]
      omega
    · rw [e2]; exact h.f
    · rw [e1]; exact h.s
    · rw [e3]; have := h.n; omega
  | false => rw [del_no hp]; exact h
theorem del_text (h : t.Ok n) {pos m : Nat} (hp : pos + m ≤ t.long) : (t.del pos m).2.text = t.text.take pos ++ t.text.drop (pos + m) := by
  obtain ⟨e1, e2, e3, _⟩ := del_s hp
  unfold text
  rw [e1, e2, del_row h hp, List.map_append, List.map_take, List.map_drop]
theorem read_text (h : t.Ok n) {pos m : Nat} (hp : pos + m ≤ t.long) : t.read pos m = ((t.text.drop pos).take m, 0) := by
  unfold read
  rw [if_pos (inText_iff.2 ⟨pos, m, rfl, rfl, hp⟩)]
  simp only [Int.toNat_natCast]
  rw [readL_pos h.pin, List.map_take, List.map_drop]
  rfl
theorem read_no {pos m : Int} (hp : inText t.long pos m = false) : t.read pos m = ([], 30) := by unfold read; rw [hp]; rfl
theorem read_len (h : t.Ok n) (pos m : Int) : (t.read pos m).1.length ≤ n := by
  cases hp : inText t.long pos m with
  | true =>
    obtain ⟨p, k, rfl, rfl, hk⟩ := inText_iff.1 hp
    rw [read_text h hk]
    have h1 := h.text_len
    have h2 := h.n
    show ((t.text.drop p).take k).length ≤ n
    rw [List.length_take, List.length_drop]
    omega
  | false => rw [read_no hp]; exact Nat.zero_le _
theorem all_text (h : t.Ok n) : readL t.f t.s t.ps 0 t.long = t.text := by
  rw [readL_pos h.pin, List.drop_zero, h.long]
  show List.map _ (List.take (List.length (posL t.ps)) _) = _
  rw [List.take_length]
  rfl
theorem flat_ok (h : t.Ok n) : t.flat.Ok n := (new_ok t.text).mono (by rw [h.text_len]; exact h.n)
theorem flat_text : t.flat.text = t.text := new_text _
theorem flat_pcs : t.flat.ps.length ≤ 1 := by
  show (newL _).length ≤ 1
  unfold newL
  split <;> simp
end Tb
end Go.Proofs.Ytelaiafpfaohfaa
