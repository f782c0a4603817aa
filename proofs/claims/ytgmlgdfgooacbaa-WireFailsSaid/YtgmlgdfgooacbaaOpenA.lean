/-
  From the data of the arguments to what the walks ask: calls of a reader.
-/
import Derived.Test.YtgmlgdfgooacbaaOpenB
import Derived.Test.YtgmlgdfgooacbaaWfails
namespace Go.Proofs.Ytgmlgdfgooacbaa
open Go.RowKit Go.ChangeShapes Go.WideShapes Go.ChangeAt Go.Deep
set_option linter.unusedSimpArgs false
set_option linter.unusedVariables false

section
variable {H : Type} {enc : TypeId × Value → H} {w : World}
/-- A slice of calls that came in. -/
theorem open_asks {v : Value} {d : DataW H} {ps : List MemPlace} (h : DataW.Trod enc Try.prog w 0 (fun _ => true) true 51 v d ps) (hv : ∃ a len cap, v = .slice a len cap)
    (hr : ∀ n ∈ d.weights Try.prog 51, n ≤ reachBytes) : ∃ ts, AsksRd w (fun j => j < w.heap.size) v ts ∧ AsksOk ts := by
  obtain ⟨a0, l0, c0, rfl⟩ := hv
  obtain ⟨fuel, hf⟩ := h
  rcases open_slice_fields Try.underlying51 Try.underlying53 (by kernel_rfl) (by kernel_rfl) hf with ⟨hcs, hd⟩ | ⟨a, len, cap, m, D, Pl, hcs, _, hl, hm, hmm, hd, hi⟩
  · simp only [Value.cells] at hcs
    injection hcs with hv
    rw [hv]
    exact ⟨[], ⟨[], Rd.nil _ _ _, Els.nil _ _⟩, fun e h => by cases h⟩
  · simp only [Value.cells] at hcs
    injection hcs with hv
    rw [hv]
    simp only [if_true] at hmm
    subst hmm
    injection hd with hd1 _
    have key : ∀ i, i < len → ∃ (e : Ask), w.cell? (a.add (i * 3)) = some (.int .i64 e.what) ∧ w.cell? (a.add (i * 3 + 1)) = some (.int .i64 e.most) ∧ w.cell? (a.add (i * 3 + 2)) = some (.int .u64 e.n) ∧
        e.most ≤ 9223372036854775807 := by
      intro i hlt
      obtain ⟨ys, n, hDi, _, _, hfld⟩ := hi i (by omega)
      obtain ⟨v0, y0, c0, g0, t0⟩ := hfld 0 _ rfl
      obtain ⟨v1, y1, c1, g1, t1⟩ := hfld 1 _ rfl
      obtain ⟨v2, y2, c2, g2, t2⟩ := hfld 2 _ rfl
      obtain ⟨x0, e0, _, _⟩ := DataW.trod_int Try.underlying3 t0
      obtain ⟨x1, e1, _, w1⟩ := DataW.trod_int Try.underlying3 t1
      obtain ⟨x2, e2, _, w2⟩ := DataW.trod_int Try.underlying26 t2
      injection e0 with e0
      injection e1 with e1
      injection e2 with e2
      subst e0; subst e1; subst e2
      exact ⟨⟨x0, x1, x2⟩, c0, c1, c2, (i64_bounds w1).2⟩
    have build : ∀ k, k ≤ len → ∃ (cs : List Value) (es : List Ask), es.length = k ∧ Els (AskR) 3 cs es ∧ (∀ j u, cs[j]? = some u → w.cell? (a.add j) = some u) ∧ AsksOk es := by
      intro k
      induction k with
      | zero => exact fun _ => ⟨[], [], rfl, Els.nil _ _, fun j u h => by simp at h, fun e h => by cases h⟩
      | succ k ih =>
        intro hk
        obtain ⟨cs, es, hlen, hE, hc, hF⟩ := ih (by omega)
        obtain ⟨e, q0, q1, q2, hb1⟩ := key k (by omega)
        refine ⟨cs ++ [.int .i64 e.what, .int .i64 e.most, .int .u64 e.n], es ++ [e], by simp [hlen], Els.snoc hE rfl (show AskR [.int .i64 e.what, .int .i64 e.most, .int .u64 e.n] e from rfl), ?_, ?_⟩
        · intro j u hu
          have hcl : cs.length = k * 3 := by rw [hE.1, hlen]
          rcases Nat.lt_or_ge j cs.length with hj | hj
          · rw [List.getElem?_append_left hj] at hu
            exact hc j u hu
          · rw [List.getElem?_append_right hj] at hu
            obtain ⟨i, rfl⟩ : ∃ i, j = k * 3 + i := ⟨j - k * 3, by omega⟩
            rw [hcl, Nat.add_sub_cancel_left] at hu
            match i, hu with
            | 0, hu => simp at hu; subst hu; exact q0
            | 1, hu => simp at hu; subst hu; exact q1
            | 2, hu => simp at hu; subst hu; exact q2
            | i + 3, hu => simp at hu
        · intro x hx
          rcases List.mem_append.1 hx with hx | hx
          · exact hF x hx
          · simp at hx; subst hx; exact hb1
    obtain ⟨cs, es, hlen, hE, hc, hF⟩ := build len (Nat.le_refl _)
    refine ⟨es, ⟨cs, ⟨hE.1, some a, m, by rw [hlen], by omega, hm, fun h0 => ?_⟩, hE⟩, hF⟩
    obtain ⟨e, q0, _⟩ := key 0 (by omega)
    have hp := plain_addr (by simpa using q0)
    have h01 := q0
    rw [hp, add_plain] at h01
    refine ⟨a.block, a.off, by rw [← hp], lt_of_cell h01, fun j u hu => ?_⟩
    have := hc j u hu
    rw [hp, add_plain] at this
    exact this
end
end Go.Proofs.Ytgmlgdfgooacbaa
