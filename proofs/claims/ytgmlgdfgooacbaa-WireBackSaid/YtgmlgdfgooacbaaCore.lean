/-
  Words for memory, over any program: what a slice reads as, what a call leaves as it was. Plain theorems; no program in sight.
-/
import Derived.Handy
import Derived.Lib.Hide
import Derived.Outline
import Derived.Laws.OwnMore
import Derived.Laws.CopyOwn
import Derived.Deep.Draws
namespace Go.Proofs.Ytgmlgdfgooacbaa
open Go.RowKit

/-- A slice value reads as n elements of sz cells each, the cells cs; it lies in a block of S. -/
def Rd (w : World) (S : Nat → Prop) (sz : Nat) (v : Value) (n : Nat) (cs : List Value) : Prop :=
  cs.length = n * sz ∧ ∃ p c, v = .slice p n c ∧ n ≤ c ∧ c ≤ maxLen ∧
    (0 < n → ∃ b off, p = some ⟨b, off, none⟩ ∧ S b ∧ ∀ j u, cs[j]? = some u → w.cell? ⟨b, off + j, none⟩ = some u)

theorem cell_far {w : World} {b i g j : Nat} {u : Value} (h : g ≠ b) : (w.setCell ⟨b, i, none⟩ u).cell? ⟨g, j, none⟩ = w.cell? ⟨g, j, none⟩ :=
  World.cell?_setCell_other w _ _ u (fun e => h (by injection e with e; exact e.symm))

/-- All blocks of w but those of M are in w' as they were. -/
structure Ext (M : Nat → Prop) (w w' : World) : Prop where
  os : w'.os = w.os
  tape : w'.tape = w.tape
  output : w'.output = w.output
  size : w.heap.size ≤ w'.heap.size
  block : ∀ k, k < w.heap.size → ¬ M k → w'.heap[k]? = w.heap[k]?

theorem Ext.refl (M : Nat → Prop) (w : World) : Ext M w w := ⟨rfl, rfl, rfl, Nat.le_refl _, fun _ _ _ => rfl⟩
theorem Ext.trans {M : Nat → Prop} {a b c : World} (h : Ext M a b) (k : Ext M b c) : Ext M a c :=
  ⟨k.os.trans h.os, k.tape.trans h.tape, k.output.trans h.output, Nat.le_trans h.size k.size, fun i hi hn => (k.block i (Nat.lt_of_lt_of_le hi h.size) hn).trans (h.block i hi hn)⟩
theorem Ext.mono {M M' : Nat → Prop} {a b : World} (h : Ext M a b) (hm : ∀ k, k < a.heap.size → M k → M' k) : Ext M' a b :=
  ⟨h.os, h.tape, h.output, h.size, fun i hi hn => h.block i hi fun hk => hn (hm i hi hk)⟩
theorem Ext.of_below {w w' : World} (M : Nat → Prop) (h : Below w.heap.size w w') : Ext M w w' := ⟨h.os, h.tape, h.output, h.size, fun k hk _ => h.block k hk⟩
theorem Ext.below {w w' : World} (h : Ext (fun _ => False) w w') : Below w.heap.size w w' := ⟨h.os, h.tape, h.output, h.size, fun k hk => h.block k hk id⟩

theorem Ext.setCell {M : Nat → Prop} {w w' : World} (h : Ext M w w') {p : Addr} (hp : M p.block ∨ w.heap.size ≤ p.block) (u : Value) : Ext M w (w'.setCell p u) :=
  ⟨h.os, h.tape, h.output, by simpa [World.setCell] using h.size, fun k hk hn => (heap_setCell_other w' p k u (by rintro rfl; rcases hp with hp | hp; exact hn hp; omega)).trans (h.block k hk hn)⟩
theorem Ext.set1 {M : Nat → Prop} {w w' : World} {g i : Nat} {a : Value} (h : Ext M w w') (hg : M g) : Ext M w (w'.setCell ⟨g, i, none⟩ a) := h.setCell (p := ⟨g, i, none⟩) (.inl hg) a
theorem Ext.alloc {M : Nat → Prop} {w w' : World} (h : Ext M w w') (o : Obj) : Ext M w (w'.alloc o) :=
  ⟨h.os, h.tape, h.output, by have := h.size; simp; omega, fun k hk hn => (Below.heap_alloc w' o k (Nat.lt_of_lt_of_le hk h.size)).trans (h.block k hk hn)⟩
/-- What is written is new: nothing old is turned. -/
theorem Ext.new {M : Nat → Prop} {w w' : World} (h : Ext M w w') (hm : ∀ k, M k → w.heap.size ≤ k) : Below w.heap.size w w' :=
  ⟨h.os, h.tape, h.output, h.size, fun k hk => h.block k hk fun hn => by have := hm k hn; omega⟩
theorem Ext.from {M : Nat → Prop} {w w1 w' : World} (h0 : Below w.heap.size w w1) (h : Ext M w1 w') (hm : ∀ k, M k → w.heap.size ≤ k) : Below w.heap.size w w' :=
  ⟨h.os.trans h0.os, h.tape.trans h0.tape, h.output.trans h0.output, Nat.le_trans h0.size h.size, fun k hk => (h.block k (Nat.lt_of_lt_of_le hk h0.size) fun hn => by have := hm k hn; omega).trans (h0.block k hk)⟩
theorem lt_of_cell {w : World} {b o : Nat} {v : Value} (h : w.cell? ⟨b, o, none⟩ = some v) : b < w.heap.size := block_lt_of_cell h

theorem cell_keep {w w' : World} {b o : Nat} (h : w'.heap[b]? = w.heap[b]?) : w'.cell? ⟨b, o, none⟩ = w.cell? ⟨b, o, none⟩ := by simp [World.cell?, h]

section
variable {w w' : World} {S S' : Nat → Prop} {sz n : Nat} {v : Value} {cs : List Value}

theorem Rd.len (h : Rd w S sz v n cs) : cs.length = n * sz := h.1

theorem Rd.le (h : Rd w S sz v n cs) : n ≤ maxLen := by
  obtain ⟨_, p, c, _, h1, h2, _⟩ := h
  exact Nat.le_trans h1 h2

/-- What S names is as it was: the slice reads as it did. -/
theorem Rd.keep (h : Rd w S sz v n cs) (hk : ∀ k, k < w.heap.size → S k → w'.heap[k]? = w.heap[k]?) (hs : ∀ k, S k → k < w.heap.size → S' k) (h0 : 0 < sz) : Rd w' S' sz v n cs := by
  obtain ⟨hl, p, c, rfl, h1, h2, h3⟩ := h
  refine ⟨hl, p, c, rfl, h1, h2, fun hn => ?_⟩
  obtain ⟨b, off, rfl, hb, hc⟩ := h3 hn
  have h0' : 0 < cs.length := by rw [hl]; exact Nat.mul_pos hn h0
  have hlt := lt_of_cell (hc 0 _ (List.getElem?_eq_getElem h0'))
  exact ⟨b, off, rfl, hs b hb hlt, fun j u hu => (cell_keep (hk b hlt hb)).trans (hc j u hu)⟩

theorem Rd.ext {M : Nat → Prop} (h : Rd w S sz v n cs) (he : Ext M w w') (hm : ∀ k, S k → ¬ M k) (h0 : 0 < sz) : Rd w' S sz v n cs :=
  h.keep (fun k hk hS => he.block k hk (hm k hS)) (fun _ hk _ => hk) h0

theorem Rd.weak (h : Rd w S sz v n cs) (hs : ∀ k, S k → k < w.heap.size → S' k) (h0 : 0 < sz) : Rd w S' sz v n cs := h.keep (fun _ _ _ => rfl) hs h0

theorem Rd.addr {p : Option Addr} {c : Nat} (h : Rd w S sz (.slice p n c) n cs) (hn : 0 < n) : ∃ b off, p = some ⟨b, off, none⟩ ∧ n ≤ c ∧ S b ∧ ∀ j u, cs[j]? = some u → w.cell? ⟨b, off + j, none⟩ = some u := by
  obtain ⟨_, p', c', he, h1, _, h3⟩ := h
  injection he with e1 _ e2
  subst e1; subst e2
  obtain ⟨b, off, e, hb, hc⟩ := h3 hn
  exact ⟨b, off, e, h1, hb, hc⟩
theorem Rd.nil (w : World) (S : Nat → Prop) (sz : Nat) : Rd w S sz (.slice none 0 0) 0 [] :=
  ⟨by simp, none, 0, rfl, Nat.le_refl _, Nat.zero_le _, fun h => absurd h (by omega)⟩

/-- The form of a slice that is not empty. -/
theorem Rd.form (h : Rd w S sz v n cs) (hn : 0 < n) : ∃ b off c, v = .slice (some ⟨b, off, none⟩) n c ∧ n ≤ c ∧ c ≤ maxLen ∧ S b ∧ ∀ j u, cs[j]? = some u → w.cell? ⟨b, off + j, none⟩ = some u := by
  obtain ⟨_, p, c, rfl, h1, h2, h3⟩ := h
  obtain ⟨b, off, rfl, hb, hc⟩ := h3 hn
  exact ⟨b, off, c, rfl, h1, h2, hb, hc⟩

/-- A slice's end: 's[k:]'. -/
theorem Rd.cut {p : Option Addr} {c k : Nat} (h : Rd w S sz (.slice p n c) n cs) (hk : k ≤ n) : Rd w S sz (.slice (if c = k then p else p.map (·.add (k * sz))) (n - k) (c - k)) (n - k) (cs.drop (k * sz)) := by
  obtain ⟨hl, p', c', he, h1, h2, h3⟩ := h
  injection he with e1 _ e2
  subst e1; subst e2
  refine ⟨by rw [List.length_drop, hl, Nat.sub_mul], _, _, rfl, by omega, by omega, fun hn => ?_⟩
  obtain ⟨b, off, rfl, hb, hc⟩ := h3 (by omega)
  rw [if_neg (by omega)]
  refine ⟨b, off + k * sz, ?_, hb, fun j u hu => ?_⟩
  · simp only [Option.map_some, Addr.add]
    split
    · rename_i h0; simp [h0]
    · rfl
  · rw [Nat.add_assoc]
    exact hc _ u (by rw [← hu, List.getElem?_drop])
/-- A slice's beginning: 's[:k]'. -/
theorem Rd.front {p : Option Addr} {c k : Nat} (h : Rd w S sz (.slice p n c) n cs) (hk : k ≤ n) : Rd w S sz (.slice p k c) k (cs.take (k * sz)) := by
  obtain ⟨hl, p', c', he, h1, h2, h3⟩ := h
  injection he with e1 _ e2
  subst e1; subst e2
  have hle : k * sz ≤ n * sz := Nat.mul_le_mul_right _ hk
  refine ⟨by rw [List.length_take, hl]; omega, _, _, rfl, by omega, h2, fun hn => ?_⟩
  obtain ⟨b, off, rfl, hb, hc⟩ := h3 (by omega)
  refine ⟨b, off, rfl, hb, fun j u hu => hc j u ?_⟩
  rw [List.getElem?_take] at hu
  split at hu
  · exact hu
  · cases hu

theorem Rd.of_own {base : Nat} {e : TypeId} (h : w.ownsRow base e sz v n cs) : Rd w (fun k => base ≤ k ∧ k < w.heap.size) sz v n cs := by
  rcases h with ⟨hl, ⟨rfl, rfl⟩ | ⟨g, cap, cur, rfl, hb, hg, hn, hc, hcs, ht⟩⟩
  · exact ⟨hl, none, 0, rfl, Nat.le_refl _, Nat.zero_le _, fun h => absurd h (by omega)⟩
  · refine ⟨hl, _, cap, rfl, hn, hc, fun _ => ⟨g, 0, rfl, ⟨hb, (Array.getElem?_eq_some_iff.1 hg).1⟩, fun j u hu => ?_⟩⟩
    rw [Nat.zero_add, cell_of_row w g j cur e (0, 0) hg]
    rw [← ht, List.getElem?_take] at hu
    split at hu
    · simpa using hu
    · cases hu

theorem Rd.slice (h : Rd w S sz v n cs) : ∃ p c, v = .slice p n c := by
  obtain ⟨_, p, c, rfl, _⟩ := h
  exact ⟨p, c, rfl⟩
theorem Rd.alloc (h : Rd w S sz v n cs) (h0 : 0 < sz) (o : Obj) : Rd (w.alloc o) S sz v n cs :=
  h.keep (fun _ hk _ => Below.heap_alloc w o _ hk) (fun _ hk _ => hk) h0
theorem Rd.below (h : Rd w S sz v n cs) (h0 : 0 < sz) (hb : Below w.heap.size w w') : Rd w' S sz v n cs :=
  h.keep (fun k hk _ => hb.block k hk) (fun _ hk _ => hk) h0
theorem Rd.setCell (h : Rd w S sz v n cs) (h0 : 0 < sz) {a : Addr} (ha : ∀ k, S k → k < w.heap.size → k ≠ a.block) (u : Value) : Rd (w.setCell a u) S sz v n cs :=
  h.keep (fun k hk hS => heap_setCell_other w a k u (ha k hS hk)) (fun _ hk _ => hk) h0

theorem Rd.drew (h : Rd w S sz v n cs) : Rd w.drew S sz v n cs := h
theorem Rd.size_pos (h : Rd w S sz v n cs) (hn : 0 < n) (h0 : 0 < sz) : ∃ b, S b ∧ b < w.heap.size := by
  obtain ⟨b, off, c, rfl, _, _, hb, hc⟩ := h.form hn
  have h0' : 0 < cs.length := by rw [h.1]; exact Nat.mul_pos hn h0
  exact ⟨b, hb, lt_of_cell (hc 0 _ (List.getElem?_eq_getElem h0'))⟩
end

/-- The cells cs are those of the elements xs, sz each. -/
def Els {α : Type} (R : List Value → α → Prop) (sz : Nat) (cs : List Value) (xs : List α) : Prop :=
  cs.length = xs.length * sz ∧ ∀ i x, xs[i]? = some x → R ((cs.drop (i * sz)).take sz) x
section
variable {α : Type} {R R' : List Value → α → Prop} {sz : Nat} {cs : List Value} {xs : List α}
theorem Els.nil (R : List Value → α → Prop) (sz : Nat) : Els R sz [] [] := ⟨by simp, fun i x h => by simp at h⟩
theorem Els.one {n : Nat} {α : Type} {R : List Value → α → Prop} {cs : List Value} {xs : List α} (h : Els R n cs xs) (hR : ∀ c x, R c x → ∀ u ∈ c, u.oneCell' = true) (h0 : 0 < n) : ∀ u ∈ cs, u.oneCell' = true := by
  intro u hu
  obtain ⟨j, hj, rfl⟩ := List.getElem_of_mem hu
  have hi : j / n < xs.length := by rw [Nat.div_lt_iff_lt_mul h0]; have := h.1; omega
  refine hR _ _ (h.2 (j / n) _ (List.getElem?_eq_getElem hi)) _ ?_
  have hm := Nat.mod_lt j h0
  have hd : j / n * n + j % n = j := by rw [Nat.mul_comm]; exact Nat.div_add_mod j n
  refine List.mem_of_getElem? (i := j % n) ?_
  rw [List.getElem?_take, if_pos hm, List.getElem?_drop, hd, List.getElem?_eq_getElem hj]
theorem Els.snoc {c : List Value} {x : α} (h : Els R sz cs xs) (hc : c.length = sz) (hx : R c x) : Els R sz (cs ++ c) (xs ++ [x]) := by
  refine ⟨by rw [List.length_append, List.length_append, h.1, hc, List.length_singleton, Nat.add_mul, Nat.one_mul], fun i y hy => ?_⟩
  rcases Nat.lt_or_ge i xs.length with hi | hi
  · rw [List.getElem?_append_left hi] at hy
    have hle : (i + 1) * sz ≤ cs.length := by rw [h.1]; exact Nat.mul_le_mul_right _ hi
    rw [Nat.add_mul, Nat.one_mul] at hle
    rw [List.drop_append_of_le_length (by omega), List.take_append_of_le_length (by rw [List.length_drop]; omega)]
    exact h.2 i y hy
  · rw [List.getElem?_append_right hi] at hy
    have hi' : i = xs.length := by
      rcases Nat.eq_zero_or_pos (i - xs.length) with h0 | h0
      · omega
      · rw [List.getElem?_eq_none (by simp; omega)] at hy; cases hy
    subst hi'
    simp only [Nat.sub_self, List.getElem?_cons_zero, Option.some.injEq] at hy
    subst hy
    rw [← h.1, List.drop_left, ← hc, List.take_length]
    exact hx
theorem Els.imp (h : Els R sz cs xs) (hi : ∀ c x, x ∈ xs → R c x → R' c x) : Els R' sz cs xs :=
  ⟨h.1, fun i x hx => hi _ x (List.mem_of_getElem? hx) (h.2 i x hx)⟩
theorem Els.drop (h : Els R sz cs xs) (k : Nat) : Els R sz (cs.drop (k * sz)) (xs.drop k) := by
  refine ⟨by rw [List.length_drop, List.length_drop, h.1, Nat.sub_mul], fun i x hx => ?_⟩
  rw [List.drop_drop, ← Nat.add_mul]
  rw [List.getElem?_drop] at hx
  exact h.2 _ x hx
theorem Els.take (h : Els R sz cs xs) (k : Nat) : Els R sz (cs.take (k * sz)) (xs.take k) := by
  have e : min (k * sz) (xs.length * sz) = min k xs.length * sz := by
    rcases Nat.le_total k xs.length with h | h
    · rw [Nat.min_eq_left h, Nat.min_eq_left (Nat.mul_le_mul_right _ h)]
    · rw [Nat.min_eq_right h, Nat.min_eq_right (Nat.mul_le_mul_right _ h)]
  refine ⟨by rw [List.length_take, List.length_take, h.1, e], fun i x hx => ?_⟩
  rw [List.getElem?_take] at hx
  split at hx
  · rename_i hi
    have h1 : (i + 1) * sz ≤ k * sz := Nat.mul_le_mul_right _ hi
    rw [Nat.add_mul, Nat.one_mul] at h1
    rw [List.drop_take, List.take_take, Nat.min_eq_left (by omega)]
    exact h.2 i x hx
  · cases hx
theorem Els.app {ds : List Value} {ys : List α} (h : Els R sz cs xs) (k : Els R sz ds ys) : Els R sz (cs ++ ds) (xs ++ ys) := by
  refine ⟨by rw [List.length_append, List.length_append, h.1, k.1, Nat.add_mul], fun i y hy => ?_⟩
  rcases Nat.lt_or_ge i xs.length with hi | hi
  · rw [List.getElem?_append_left hi] at hy
    have hle : (i + 1) * sz ≤ cs.length := by rw [h.1]; exact Nat.mul_le_mul_right _ hi
    rw [Nat.add_mul, Nat.one_mul] at hle
    rw [List.drop_append_of_le_length (by omega), List.take_append_of_le_length (by rw [List.length_drop]; omega)]
    exact h.2 i y hy
  · rw [List.getElem?_append_right hi] at hy
    have e : i * sz = cs.length + (i - xs.length) * sz := by rw [h.1, ← Nat.add_mul]; congr 1; omega
    rw [e, ← List.drop_drop, List.drop_left]
    exact k.2 _ y hy
end
theorem four_at {cs : List Value} {k : Nat} {a b c d : Value} (h : (cs.drop k).take 4 = [a, b, c, d]) : cs[k]? = some a ∧ cs[k + 1]? = some b ∧ cs[k + 2]? = some c ∧ cs[k + 3]? = some d := by
  have g : ∀ j, j < 4 → cs[k + j]? = [a, b, c, d][j]? := by
    intro j hj
    rw [← h, List.getElem?_take, if_pos hj, List.getElem?_drop]
  exact ⟨g 0 (by omega), g 1 (by omega), g 2 (by omega), g 3 (by omega)⟩

/-- The k-th element's cells, in the walk's spelling. -/
theorem cells4 {w : World} {bk off k : Nat} {cs : List Value} {a b c d : Value} (hc : ∀ j u, cs[j]? = some u → w.cell? ⟨bk, off + j, none⟩ = some u) (h : (cs.drop (k * 4)).take 4 = [a, b, c, d]) :
    w.cell? ⟨bk, off + k * 4, none⟩ = some a ∧ w.cell? ⟨bk, off + k * 4 + 1, none⟩ = some b ∧ w.cell? ⟨bk, off + k * 4 + 2, none⟩ = some c ∧ w.cell? ⟨bk, off + k * 4 + 3, none⟩ = some d := by
  obtain ⟨h0, h1, h2, h3⟩ := four_at h
  exact ⟨hc _ _ h0, hc _ _ h1, hc _ _ h2, hc _ _ h3⟩

/-- The cells of a block just made. -/
theorem news_of_block {w : World} {g : Nat} {cs : List Value} {t : TypeId} (h : w.heap[g]? = some (.cells cs.toArray t (0, 0))) : ∀ (j : Nat) u, cs[j]? = some u → w.cell? ((⟨g, 0, none⟩ : Addr).add j) = some u := by
  intro j u hu
  have e : (⟨g, 0, none⟩ : Addr).add j = ⟨g, j, none⟩ := by unfold Addr.add; split <;> simp_all
  rw [e, cell_of_row w g j _ t (0, 0) h]
  simpa using hu

theorem take_snoc {α : Type} (l : List α) (k : Nat) (h : k < l.length) : l.take (k + 1) = l.take k ++ [l[k]] := by
  rw [List.take_succ_eq_append_getElem h]

/-- Block g is just the cells cs of element type t, none frozen. -/
def Blk (w : World) (g : Nat) (t : TypeId) (cs : Array Value) : Prop := w.heap[g]? = some (.cells cs t (0, 0))
section
variable {w w' : World} {g : Nat} {t : TypeId} {cs : Array Value}
theorem Blk.lt (h : Blk w g t cs) : g < w.heap.size := (Array.getElem?_eq_some_iff.1 h).1
theorem Blk.cell (h : Blk w g t cs) (i : Nat) : w.cell? ⟨g, i, none⟩ = cs[i]? := cell_of_row w g i cs t (0, 0) h
theorem Blk.frozen (h : Blk w g t cs) (i : Nat) : w.frozen? ⟨g, i, none⟩ = false := by unfold Blk at h; simp [World.frozen?, h]
theorem Blk.new (w : World) (t : TypeId) (cs : Array Value) : Blk (w.alloc (.cells cs t)) w.heap.size t cs := heap_alloc_new w _
theorem Blk.drew (h : Blk w g t cs) : Blk w.drew g t cs := h
theorem Blk.alloc (h : Blk w g t cs) (o : Obj) : Blk (w.alloc o) g t cs := (Below.heap_alloc w o g h.lt).trans h
theorem Blk.set_ (h : Blk w g t cs) (i : Nat) (u : Value) : Blk (w.setCell ⟨g, i, none⟩ u) g t (cs.setIfInBounds i u) := by
  unfold Blk at h ⊢
  simp [World.setCell, Array.getElem?_modify, h]
theorem Blk.far (h : Blk w g t cs) {p : Addr} (hp : g ≠ p.block) (u : Value) : Blk (w.setCell p u) g t cs := (Below.heap_setCell w p u g hp).trans h
theorem Blk.below (h : Blk w g t cs) (hb : Below w.heap.size w w') : Blk w' g t cs := (hb.block g h.lt).trans h
theorem Blk.ext {M : Nat → Prop} (h : Blk w g t cs) (hb : Ext M w w') (hg : ¬ M g) : Blk w' g t cs := (hb.block g h.lt hg).trans h
theorem Blk.grown {row : Option Nat} (h : Blk w g t cs) (hb : w.grownBy w' row) (hg : some g ≠ row) : Blk w' g t cs := (hb.block g h.lt hg).trans h
theorem Blk.ne_ {g' : Nat} {t' : TypeId} {cs' : Array Value} (h : Blk w g t cs) (h' : Blk w g' t' cs') (hne : t ≠ t') : g ≠ g' := by
  rintro rfl
  unfold Blk at h h'
  rw [h] at h'
  injection h' with h'
  injection h' with _ ht
  exact hne ht
theorem Blk.set4 {a b c d a' b' c' d' : Value} (h : Blk w g t #[a, b, c, d]) : Blk ((((w.setCell ⟨g, 0, none⟩ a').setCell ⟨g, 1, none⟩ b').setCell ⟨g, 2, none⟩ c').setCell ⟨g, 3, none⟩ d') g t #[a', b', c', d'] := by
  simpa using (((h.set_ 0 a').set_ 1 b').set_ 2 c').set_ 3 d'
/-- A block of one, two, three, four cells, as the walk asks for it. -/
theorem Blk.c1 {a : Value} (h : Blk w g t #[a]) : w.cell? ⟨g, 0, none⟩ = some a ∧ w.frozen? ⟨g, 0, none⟩ = false ∧ g < w.heap.size := ⟨h.cell 0, h.frozen 0, h.lt⟩
theorem Blk.c2 {a b : Value} (h : Blk w g t #[a, b]) : w.cell? ⟨g, 0, none⟩ = some a ∧ w.cell? ⟨g, 1, none⟩ = some b ∧ w.frozen? ⟨g, 0, none⟩ = false ∧ w.frozen? ⟨g, 1, none⟩ = false ∧ g < w.heap.size :=
  ⟨h.cell 0, h.cell 1, h.frozen 0, h.frozen 1, h.lt⟩
theorem Blk.c3 {a b c : Value} (h : Blk w g t #[a, b, c]) : w.cell? ⟨g, 0, none⟩ = some a ∧ w.cell? ⟨g, 1, none⟩ = some b ∧ w.cell? ⟨g, 2, none⟩ = some c ∧
    w.frozen? ⟨g, 0, none⟩ = false ∧ w.frozen? ⟨g, 1, none⟩ = false ∧ w.frozen? ⟨g, 2, none⟩ = false ∧ g < w.heap.size :=
  ⟨h.cell 0, h.cell 1, h.cell 2, h.frozen 0, h.frozen 1, h.frozen 2, h.lt⟩
theorem Blk.c4 {a b c d : Value} (h : Blk w g t #[a, b, c, d]) : w.cell? ⟨g, 0, none⟩ = some a ∧ w.cell? ⟨g, 1, none⟩ = some b ∧ w.cell? ⟨g, 2, none⟩ = some c ∧ w.cell? ⟨g, 3, none⟩ = some d ∧
    w.frozen? ⟨g, 0, none⟩ = false ∧ w.frozen? ⟨g, 1, none⟩ = false ∧ w.frozen? ⟨g, 2, none⟩ = false ∧ w.frozen? ⟨g, 3, none⟩ = false ∧ g < w.heap.size :=
  ⟨h.cell 0, h.cell 1, h.cell 2, h.cell 3, h.frozen 0, h.frozen 1, h.frozen 2, h.frozen 3, h.lt⟩
end

theorem own_base {w : World} {base base' sz n : Nat} {e : TypeId} {v : Value} {cs : List Value} (h : w.ownsRow base e sz v n cs) (hb : base' ≤ base) : w.ownsRow base' e sz v n cs := by
  obtain ⟨h1, h2⟩ := h
  refine ⟨h1, ?_⟩
  rcases h2 with h2 | ⟨g, cap, cur, hv, hg, r⟩
  · exact .inl h2
  · exact .inr ⟨g, cap, cur, hv, Nat.le_trans hb hg, r⟩

/-- An owned row is kept where its block is kept. -/
theorem own_keep {w w' : World} {base sz n : Nat} {e : TypeId} {v : Value} {cs : List Value} (h : w.ownsRow base e sz v n cs) (hk : ∀ k, base ≤ k → k < w.heap.size → v.ownBlock = some k → w'.heap[k]? = w.heap[k]?) : w'.ownsRow base e sz v n cs := by
  obtain ⟨h1, h2⟩ := h
  refine ⟨h1, ?_⟩
  rcases h2 with h2 | ⟨g, cap, cur, rfl, hg, hh, r⟩
  · exact .inl h2
  · exact .inr ⟨g, cap, cur, rfl, hg, (hk g hg (Array.getElem?_eq_some_iff.1 hh).1 rfl).trans hh, r⟩

theorem own_below {w w' : World} {base sz n : Nat} {e : TypeId} {v : Value} {cs : List Value} (h : w.ownsRow base e sz v n cs) (hb : Below w.heap.size w w') : w'.ownsRow base e sz v n cs :=
  own_keep h fun k _ hk _ => hb.block k hk

/-- A store into a block of another element type. -/
theorem own_set {w : World} {base sz n g : Nat} {e t : TypeId} {v : Value} {cs : List Value} {c : Array Value} (h : w.ownsRow base e sz v n cs) (hg : Blk w g t c) (hne : e ≠ t) (i : Nat) (u : Value) : (w.setCell ⟨g, i, none⟩ u).ownsRow base e sz v n cs := by
  obtain ⟨h1, h2⟩ := h
  refine ⟨h1, ?_⟩
  rcases h2 with h2 | ⟨g', cap, cur, rfl, hg', hh, r⟩
  · exact .inl h2
  · refine .inr ⟨g', cap, cur, rfl, hg', (Below.heap_setCell w _ u g' ?_).trans hh, r⟩
    exact Blk.ne_ (w := w) (t := e) hh hg hne

/-- An append onto a row of another element type. -/
theorem own_grown {w w' : World} {base base' sz sz' n n' : Nat} {e e' : TypeId} {v v' : Value} {cs cs' : List Value} (h : w.ownsRow base e sz v n cs) (h' : w.ownsRow base' e' sz' v' n' cs') (hne : e ≠ e')
    (hg : w.grownBy w' v'.ownBlock) : w'.ownsRow base e sz v n cs := by
  refine own_keep h fun k _ hk hv => hg.block k hk fun he => ?_
  rcases h.2 with ⟨rfl, _⟩ | ⟨g, cap, cur, rfl, _, hh, _⟩
  · simp [Value.ownBlock] at hv
  · rcases h'.2 with ⟨rfl, _⟩ | ⟨g', cap', cur', rfl, _, hh', _⟩
    · simp [Value.ownBlock] at he
    · simp only [Value.ownBlock, Option.some.injEq] at hv he
      subst hv
      subst he
      rw [hh] at hh'
      injection hh' with hh'
      injection hh' with _ ht
      exact hne ht

/-- A row and a block of another element type are not one. -/
theorem own_ne {w : World} {base sz n g : Nat} {e t : TypeId} {v : Value} {cs : List Value} {c : Array Value} (h : w.ownsRow base e sz v n cs) (hg : Blk w g t c) (hne : e ≠ t) : v.ownBlock ≠ some g := by
  rcases h.2 with ⟨rfl, _⟩ | ⟨g', cap, cur, rfl, _, hh, _⟩
  · simp [Value.ownBlock]
  · intro he
    have : g' = g := by simpa [Value.ownBlock] using he
    exact Blk.ne_ (w := w) (t := e) hh hg hne this
theorem own_alloc {w : World} {base sz n : Nat} {e : TypeId} {v : Value} {cs : List Value} (h : w.ownsRow base e sz v n cs) (o : Obj) : (w.alloc o).ownsRow base e sz v n cs := h.alloc o

theorem own_slice {w : World} {base sz n : Nat} {e : TypeId} {v : Value} {cs : List Value} (h : w.ownsRow base e sz v n cs) : ∃ p c, v = .slice p n c := by
  rcases h.2 with ⟨rfl, rfl⟩ | ⟨g, cap, cur, rfl, _⟩
  · exact ⟨_, _, rfl⟩
  · exact ⟨_, _, rfl⟩

theorem bcell {w w1 : World} {B : Nat} (hb : Below B w w1) : (∀ b o, b < B → w1.cell? ⟨b, o, none⟩ = w.cell? ⟨b, o, none⟩) ∧ (∀ b o, b < B → w1.frozen? ⟨b, o, none⟩ = w.frozen? ⟨b, o, none⟩) :=
  ⟨fun b o h => hb.cell (p := ⟨b, o, none⟩) h, fun b o h => hb.frozen (p := ⟨b, o, none⟩) h⟩

end Go.Proofs.Ytgmlgdfgooacbaa
