/-
  Plain laws of the reference's table: it goes along with the plain table. Plain theorems; no condition on the program.
-/
import Derived.Test.YtelaiafpfaohfaaOnes
namespace Go.Proofs.Ytelaiafpfaohfaa

structure Rf where
  L : List On
  added : Nat
def onOf (f s : List Int) (x : Bool × Nat) : On := ⟨charAt f s x, x.1, x.2⟩
def newOns (a : Nat) (l : List Int) : List On := l.mapIdx fun i c => ⟨c, true, a + i⟩
def firstOns (l : List Int) : List On := l.mapIdx fun i c => ⟨c, false, i⟩
namespace Rf
def of (t : Tb) : Rf := ⟨t.row.map (onOf t.f t.s), t.s.length⟩
def new (l : List Int) : Rf := ⟨firstOns l, 0⟩
def ins (r : Rf) (pos : Int) (l : List Int) : Int × Rf :=
  if 0 ≤ pos ∧ pos ≤ r.L.length then (0, ⟨r.L.take pos.toNat ++ newOns r.added l ++ r.L.drop pos.toNat, r.added + l.length⟩) else (30, r)
def del (r : Rf) (pos n : Int) : Int × Rf :=
  if inText r.L.length pos n then (0, ⟨r.L.take pos.toNat ++ r.L.drop (pos.toNat + n.toNat), r.added⟩) else (30, r)
def read (r : Rf) (pos n : Int) : List Int × Int :=
  if inText r.L.length pos n then (((r.L.drop pos.toNat).take n.toNat).map On.c, 0) else ([], 30)
def text (r : Rf) : List Int := r.L.map On.c
def pieces (r : Rf) : List Pc := normL (r.L.map fun x => (x.second, x.at_))

theorem len_of {t : Tb} {n : Nat} (h : t.Ok n) : (of t).L.length = t.long := by unfold of; rw [List.length_map, h.long]
theorem text_of (t : Tb) : (of t).text = t.text := by
  unfold of text Tb.text
  rw [List.map_map]
  rfl
theorem pieces_of {t : Tb} {n : Nat} (h : t.Ok n) : (of t).pieces = t.ps := by
  unfold of pieces
  rw [List.map_map, h.norm]
  congr 1
  exact (List.map_congr_left (fun x _ => rfl)).trans (List.map_id _)
theorem onOf_more {f s l : List Int} {xs : List (Bool × Nat)} (h : RowIn f s xs) : xs.map (onOf f (s ++ l)) = xs.map (onOf f s) := by
  apply List.map_congr_left
  intro x hx
  have := charAt_more (l := l) (h.sub (ys := [x]) (by simpa using hx))
  simp only [List.map_cons, List.map_nil, List.cons.injEq, and_true] at this
  unfold onOf
  rw [this]
theorem onOf_new (f s l : List Int) : (posOf ⟨true, s.length, l.length⟩).map (onOf f (s ++ l)) = newOns s.length l := by
  have h := charAt_new f s l
  apply List.ext_getElem
  · rw [List.length_map, posOf_len, newOns, List.length_mapIdx]
  · intro k h1 h2
    have h3 : k < l.length := by rw [List.length_map, posOf_len] at h1; exact h1
    have h4 := (List.getElem_of_eq h.symm h3).symm
    rw [List.getElem_map] at h4 ⊢
    have e : (newOns s.length l)[k]'h2 = ⟨l[k], true, s.length + k⟩ := by simp [newOns]
    rw [e]
    show (⟨charAt f (s ++ l) _, _, _⟩ : On) = _
    rw [h4]
    simp [posOf]
theorem onOf_first (l : List Int) : (posOf ⟨false, 0, l.length⟩).map (onOf l []) = firstOns l := by
  have h := charAt_first l
  apply List.ext_getElem
  · rw [List.length_map, posOf_len, firstOns, List.length_mapIdx]
  · intro k h1 h2
    have h3 : k < l.length := by rw [List.length_map, posOf_len] at h1; exact h1
    have h4 := (List.getElem_of_eq h.symm h3).symm
    rw [List.getElem_map] at h4 ⊢
    have e : (firstOns l)[k]'h2 = ⟨l[k], false, k⟩ := by simp [firstOns]
    rw [e]
    show (⟨charAt l [] _, _, _⟩ : On) = _
    rw [h4]
    simp [posOf]
theorem new_of (l : List Int) : of (Tb.new l) = new l := by
  unfold of new
  rw [Tb.new_row]
  exact congrArg (fun x => (⟨x, 0⟩ : Rf)) (onOf_first l)
theorem ins_of {t : Tb} {n : Nat} (h : t.Ok n) (pos : Int) (l : List Int) : (of t).ins pos l = ((t.ins pos l).1, of (t.ins pos l).2) := by
  have hl := len_of h
  by_cases hp : 0 ≤ pos ∧ pos ≤ t.long
  · obtain ⟨k, rfl⟩ : ∃ k : Nat, pos = k := ⟨pos.toNat, by omega⟩
    have hk : k ≤ t.long := by omega
    obtain ⟨e1, e2, e3, e4⟩ := Tb.ins_s hk l
    unfold ins
    rw [if_pos (by rw [hl]; exact hp), e4]
    congr 1
    simp only [Int.toNat_natCast]
    unfold of
    rw [e1, e2, Tb.ins_row h hk, List.map_append, List.map_append, onOf_new, onOf_more (h.row.sub fun y hy => List.mem_of_mem_take hy), onOf_more (h.row.sub fun y hy => List.mem_of_mem_drop hy), List.map_take, List.map_drop, List.length_append]
  · rw [Tb.ins_no hp]
    unfold ins
    rw [if_neg (by rw [hl]; exact hp)]
theorem del_of {t : Tb} {n : Nat} (h : t.Ok n) (pos m : Int) : (of t).del pos m = ((t.del pos m).1, of (t.del pos m).2) := by
  have hl := len_of h
  unfold del
  rw [hl]
  cases hp : inText t.long pos m with
  | true =>
    obtain ⟨p, k, rfl, rfl, hk⟩ := Tb.inText_iff.1 hp
    obtain ⟨e1, e2, e3, e4⟩ := Tb.del_s hk
    rw [if_pos rfl, e4]
    congr 1
    simp only [Int.toNat_natCast]
    unfold of
    rw [e1, e2, Tb.del_row h hk, List.map_append, List.map_take, List.map_drop]
  | false =>
    rw [Tb.del_no hp]
    rfl
theorem read_of {t : Tb} {n : Nat} (h : t.Ok n) (pos m : Int) : (of t).read pos m = t.read pos m := by
  have hl := len_of h
  unfold read
  rw [hl]
  cases hp : inText t.long pos m with
  | true =>
    obtain ⟨p, k, rfl, rfl, hk⟩ := Tb.inText_iff.1 hp
    rw [if_pos rfl, Tb.read_text h hk]
    simp only [Int.toNat_natCast]
    rw [List.map_take, List.map_drop, ← text_of]
    rfl
  | false =>
    rw [Tb.read_no hp]
    rfl
theorem at_of {t : Tb} {n : Nat} (h : t.Ok n) : ∀ x ∈ (of t).L, x.at_ < n := by
  intro x hx
  obtain ⟨y, hy, rfl⟩ := List.mem_map.1 hx
  have h1 := h.row y hy
  have h2 := h.f
  have h3 := h.s
  show y.2 < n
  split at h1 <;> omega
end Rf
end Go.Proofs.Ytelaiafpfaohfaa
