/-
  Calls of a law: what they read as; code points that are turned in place. Plain theorems over memory.
-/
import Derived.Test.YtelaiafpfaohfaaOpen5
namespace Go.Proofs.Ytelaiafpfaohfaa
open Go.RowKit Go.ChangeShapes Go.WideShapes Go.ChangeAt Go.Deep
set_option linter.unusedSimpArgs false
set_option linter.unusedVariables false

structure Actn where
  what : Int
  pos : Int
  n : Int
  l : List Int

def ActR (w : World) (S : Nat → Prop) (c : List Value) (t : Actn) : Prop := ∃ s, c = [.int .i64 t.what, .int .i64 t.pos, .int .i64 t.n, s] ∧ CharRd w S s t.l ∧ NilOk s
def ActsRd (w : World) (S : Nat → Prop) (v : Value) (ts : List Actn) : Prop := ∃ cs, Rd w S 4 v ts.length cs ∧ Els (ActR w S) 4 cs ts
theorem ActsRd.below {w w' : World} {S : Nat → Prop} {v : Value} {ts : List Actn} (h : ActsRd w S v ts) (hb : Below w.heap.size w w') : ActsRd w' S v ts := by
  obtain ⟨cs, hr, hE⟩ := h
  exact ⟨cs, hr.below (by decide) hb, hE.imp fun c t _ ⟨s, h1, h2, h3⟩ => ⟨s, h1, h2.below hb, h3⟩⟩
def i64b (x : Int) : Prop := -9223372036854775808 ≤ x ∧ x ≤ 9223372036854775807
/-- The numbers are of their kinds. -/
def ActsOk (ts : List Actn) : Prop := ∀ t ∈ ts, i64b t.pos ∧ i64b t.n

/-- The k-th call's cells. -/
theorem ActsRd.at_ {w : World} {S : Nat → Prop} {p : Option Addr} {c k : Nat} {ts : List Actn} (h : ActsRd w S (.slice p ts.length c) ts) (hk : k < ts.length) :
    ∃ bk off q d, p = some ⟨bk, off, none⟩ ∧ w.cell? ⟨bk, off + k * 4, none⟩ = some (.int .i64 ts[k].what) ∧ w.cell? ⟨bk, off + k * 4 + 1, none⟩ = some (.int .i64 ts[k].pos) ∧ w.cell? ⟨bk, off + k * 4 + 2, none⟩ = some (.int .i64 ts[k].n) ∧ w.cell? ⟨bk, off + k * 4 + 3, none⟩ = some (.slice q ts[k].l.length d) ∧
      CharRd w S (.slice q ts[k].l.length d) ts[k].l ∧ NilOk (.slice q ts[k].l.length d) ∧ ts[k].l.length ≤ d ∧ d ≤ maxLen ∧ ts.length ≤ c := by
  obtain ⟨cs, hr, hE⟩ := h
  obtain ⟨bk, off, he, hlc, _, hcell⟩ := Rd.addr hr (by omega)
  obtain ⟨s, hs, hq, hn⟩ := hE.2 k ts[k] (List.getElem?_eq_getElem hk)
  obtain ⟨e0, e1, e2, e3⟩ := cells4 hcell hs
  obtain ⟨q, d, rfl⟩ := Rd.slice hq
  have hd : ts[k].l.length ≤ d := by obtain ⟨_, _, _, h, h1, _⟩ := hq; injection h with _ _ h; omega
  have hd2 : d ≤ maxLen := by obtain ⟨_, _, _, h, _, h1, _⟩ := hq; injection h with _ _ h; omega
  exact ⟨bk, off, q, d, he, e0, e1, e2, e3, hq, hn, hd, hd2, hlc⟩
theorem NilOk.front_ {p : Option Addr} {n c k : Nat} (h : NilOk (.slice p n c)) : NilOk (.slice p k c) := by
  intro n' c' e
  injection e with e1 e2 e3
  subst e1; subst e3
  exact h _ _ rfl
theorem CharRd.front {w : World} {S : Nat → Prop} {p : Option Addr} {c k : Nat} {l : List Int} (h : CharRd w S (.slice p l.length c) l) (hk : k ≤ l.length) : CharRd w S (.slice p k c) (l.take k) := by
  have h1 := Rd.front h hk
  unfold CharRd
  rw [Nat.mul_one] at h1
  rw [ccells_take, List.length_take, Nat.min_eq_left hk]
  exact h1

/-- A row of code points of the call's own, whatever they are. -/
def SpC (w : World) (lo : Nat) (p : Option Addr) (n c : Nat) : Prop := ∃ l : List Int, w.ownsRow lo 29 1 (.slice p n c) n (ccells l)
theorem SpC.form {w : World} {lo n c : Nat} {p : Option Addr} (h : SpC w lo p n c) (hn : 0 < n) : ∃ g, p = some ⟨g, 0, none⟩ := by
  obtain ⟨bs, h⟩ := h
  rcases h.2 with ⟨h1, h2⟩ | ⟨g, cap, cur, h1, _⟩
  · omega
  · injection h1 with h1; exact ⟨g, h1⟩
theorem SpC.cell {w : World} {lo n c g j : Nat} (h : SpC w lo (some ⟨g, 0, none⟩) n c) (hj : j < n) : (∃ x : Int, w.cell? ⟨g, j, none⟩ = some (.int .i32 x)) ∧ w.frozen? ⟨g, j, none⟩ = false ∧ lo ≤ g ∧ g < w.heap.size ∧ n ≤ c := by
  obtain ⟨bs, h⟩ := h
  have hl : bs.length = n := by have := h.1; rw [ccells_len, Nat.mul_one] at this; exact this
  have hg := h.lt g rfl
  have hc : n ≤ c := by
    rcases h.2 with ⟨h1, _⟩ | ⟨g', cap, cur, h1, _, _, hn, _⟩
    · cases h1
    · injection h1 with _ _ h1; omega
  refine ⟨⟨bs[j]'(by omega), ?_⟩, h.frozenAt j, hg.1, hg.2, hc⟩
  rw [h.cellAt j (by omega)]
  simp [ccells, List.getElem?_eq_getElem (show j < bs.length by omega)]
theorem SpC.stored {w : World} {lo n c g j : Nat} (h : SpC w lo (some ⟨g, 0, none⟩) n c) (x : Int) : SpC (w.setCell ⟨g, j, none⟩ (.int .i32 x)) lo (some ⟨g, 0, none⟩) n c := by
  obtain ⟨bs, h⟩ := h
  refine ⟨bs.set j x, ?_⟩
  have e : ccells (bs.set j x) = (ccells bs).set j (.int .i32 x) := by
    unfold ccells
    rw [List.map_set]
  rw [e]
  exact (h.stored j _).1
section
variable {H : Type} {enc : TypeId × Value → H} {w : World}
/-- A slice of things that came in. -/
theorem open_acts {v : Value} {d : DataW H} {ps : List MemPlace} (h : DataW.Trod enc Try.prog w 0 (fun _ => true) true 23 v d ps) (hv : ∃ a len cap, v = .slice a len cap) : ∃ ts, ActsRd w (fun j => j < w.heap.size) v ts ∧ ActsOk ts := by
  obtain ⟨a0, l0, c0, rfl⟩ := hv
  obtain ⟨fuel, hf⟩ := h
  rcases open_slice_fields Try.underlying23 Try.underlying31 (by kernel_rfl) (by kernel_rfl) hf with ⟨hcs, hd⟩ | ⟨a, len, cap, m, D, Pl, hcs, _, hl, hm, hmm, hd, hi⟩
  · simp only [Value.cells] at hcs
    injection hcs with hv
    rw [hv]
    exact ⟨[], ⟨[], Rd.nil _ _ _, Els.nil _ _⟩, fun e h => by cases h⟩
  · simp only [Value.cells] at hcs
    injection hcs with hv
    rw [hv]
    simp only [if_true] at hmm
    subst hmm
    injection hd with hd1 _
    have key : ∀ i, i < len → ∃ (e : Actn) (s : Value), w.cell? (a.add (i * 4)) = some (.int .i64 e.what) ∧ w.cell? (a.add (i * 4 + 1)) = some (.int .i64 e.pos) ∧ w.cell? (a.add (i * 4 + 2)) = some (.int .i64 e.n) ∧ w.cell? (a.add (i * 4 + 3)) = some s ∧
        CharRd w (fun j => j < w.heap.size) s e.l ∧ NilOk s ∧ i64b e.pos ∧ i64b e.n := by
      intro i hlt
      obtain ⟨ys, n, hDi, _, _, hfld⟩ := hi i (by omega)
      obtain ⟨v0, y0, c0, g0, t0⟩ := hfld 0 _ rfl
      obtain ⟨v1, y1, c1, g1, t1⟩ := hfld 1 _ rfl
      obtain ⟨v2, y2, c2, g2, t2⟩ := hfld 2 _ rfl
      obtain ⟨v3, y3, c3, g3, t3⟩ := hfld 3 _ rfl
      obtain ⟨x0, e0, _, _⟩ := DataW.trod_int Try.underlying3 t0
      obtain ⟨x1, e1, _, w1⟩ := DataW.trod_int Try.underlying3 t1
      obtain ⟨x2, e2, _, w2⟩ := DataW.trod_int Try.underlying3 t2
      injection e0 with e0
      injection e1 with e1
      injection e2 with e2
      subst e0; subst e1; subst e2
      obtain ⟨bs, hb, hn, -⟩ := open_chars t3
      exact ⟨⟨x0, x1, x2, bs⟩, v3, c0, c1, c2, c3, hb, hn, i64_bounds w1, i64_bounds w2⟩
    have build : ∀ k, k ≤ len → ∃ (cs : List Value) (es : List Actn), es.length = k ∧ Els (ActR w (fun j => j < w.heap.size)) 4 cs es ∧ (∀ j u, cs[j]? = some u → w.cell? (a.add j) = some u) ∧ ActsOk es := by
      intro k
      induction k with
      | zero => exact fun _ => ⟨[], [], rfl, Els.nil _ _, fun j u h => by simp at h, fun e h => by cases h⟩
      | succ k ih =>
        intro hk
        obtain ⟨cs, es, hlen, hE, hc, hF⟩ := ih (by omega)
        obtain ⟨e, s, q0, q1, q2, q3, hq, hn, hb1, hb2⟩ := key k (by omega)
        refine ⟨cs ++ [.int .i64 e.what, .int .i64 e.pos, .int .i64 e.n, s], es ++ [e], by simp [hlen], Els.snoc hE rfl ⟨s, rfl, hq, hn⟩, ?_, ?_⟩
        · intro j u hu
          have hcl : cs.length = k * 4 := by rw [hE.1, hlen]
          rcases Nat.lt_or_ge j cs.length with hj | hj
          · rw [List.getElem?_append_left hj] at hu
            exact hc j u hu
          · rw [List.getElem?_append_right hj] at hu
            obtain ⟨i, rfl⟩ : ∃ i, j = k * 4 + i := ⟨j - k * 4, by omega⟩
            rw [hcl, Nat.add_sub_cancel_left] at hu
            match i, hu with
            | 0, hu => simp at hu; subst hu; exact q0
            | 1, hu => simp at hu; subst hu; exact q1
            | 2, hu => simp at hu; subst hu; exact q2
            | 3, hu => simp at hu; subst hu; exact q3
            | i + 4, hu => simp at hu
        · intro x hx
          rcases List.mem_append.1 hx with hx | hx
          · exact hF x hx
          · simp at hx; subst hx; exact ⟨hb1, hb2⟩
    obtain ⟨cs, es, hlen, hE, hc, hF⟩ := build len (Nat.le_refl _)
    refine ⟨es, ⟨cs, ⟨hE.1, some a, m, by rw [hlen], by omega, hm, fun h0 => ?_⟩, hE⟩, hF⟩
    obtain ⟨e, s, q0, _⟩ := key 0 (by omega)
    have hp := plain_addr (by simpa using q0)
    have h01 := q0
    rw [hp, add_plain] at h01
    refine ⟨a.block, a.off, by rw [← hp], lt_of_cell h01, fun j u hu => ?_⟩
    have := hc j u hu
    rw [hp, add_plain] at this
    exact this
end
end Go.Proofs.Ytelaiafpfaohfaa
