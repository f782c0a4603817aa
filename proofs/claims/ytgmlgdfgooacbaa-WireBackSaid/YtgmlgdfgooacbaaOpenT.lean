/-
  From the data of the arguments to what the walks ask: things of a record.
-/
import Derived.Test.YtgmlgdfgooacbaaOpenB
import Derived.Test.YtgmlgdfgooacbaaThing
namespace Go.Proofs.Ytgmlgdfgooacbaa
open Go.RowKit Go.ChangeShapes Go.WideShapes Go.ChangeAt Go.Deep
set_option linter.unusedSimpArgs false

section
variable {H : Type} {enc : TypeId × Value → H} {w : World}
/-- A slice of things that came in. -/
theorem open_things {v : Value} {d : DataW H} {ps : List MemPlace} (h : DataW.Trod enc Try.prog w 0 (fun _ => true) true 22 v d ps) (hv : ∃ a len cap, v = .slice a len cap)
    (hr : ∀ n ∈ d.weights Try.prog 22, n ≤ reachBytes) : ∃ ts, ThingsRd w (fun j => j < w.heap.size) v ts ∧ ThingsOk ts := by
  obtain ⟨a0, l0, c0, rfl⟩ := hv
  obtain ⟨fuel, hf⟩ := h
  rcases open_slice_fields Try.underlying22 Try.underlying28 (by kernel_rfl) (by kernel_rfl) hf with ⟨hcs, hd⟩ | ⟨a, len, cap, m, D, Pl, hcs, _, hl, hm, hmm, hd, hi⟩
  · simp only [Value.cells] at hcs
    injection hcs with hv
    rw [hv]
    exact ⟨[], ⟨[], Rd.nil _ _ _, Els.nil _ _⟩, fun e h => by cases h⟩
  · simp only [Value.cells] at hcs
    injection hcs with hv
    rw [hv]
    simp only [if_true] at hmm
    subst hmm
    injection hd with hd1 _
    have key : ∀ i, i < len → ∃ (e : Thing) (s : Value), w.cell? (a.add (i * 3)) = some (.int .i64 e.what) ∧ w.cell? (a.add (i * 3 + 1)) = some (.int .u64 e.n) ∧ w.cell? (a.add (i * 3 + 2)) = some s ∧
        CmdRd w (fun j => j < w.heap.size) s e.b ∧ NilOk s ∧ e.n < 18446744073709551616 ∧ e.b.length ≤ 200000000000000 := by
      intro i hlt
      obtain ⟨ys, n, hDi, _, _, hfld⟩ := hi i (by omega)
      obtain ⟨v0, y0, c0, g0, t0⟩ := hfld 0 _ rfl
      obtain ⟨v1, y1, c1, g1, t1⟩ := hfld 1 _ rfl
      obtain ⟨v2, y2, c2, g2, t2⟩ := hfld 2 _ rfl
      obtain ⟨x0, e0, _, _⟩ := DataW.trod_int Try.underlying3 t0
      obtain ⟨x1, e1, _, w1⟩ := DataW.trod_int Try.underlying26 t1
      injection e0 with e0
      injection e1 with e1
      subst e0; subst e1
      have hx := u64_bounds w1
      obtain ⟨bs, hb, hn, hbl⟩ := open_bytes t2
      refine ⟨⟨x0, x1.toNat, bs⟩, v2, c0, ?_, c2, hb, hn, by show x1.toNat < _; omega, ?_⟩
      · refine (show w.cell? (a.add (i * 3 + 1)) = _ from c1).trans ?_
        show some (Value.int .u64 x1) = some (.int .u64 ((x1.toNat : Nat) : Int))
        rw [Int.toNat_of_nonneg hx.1]
      refine Nat.le_trans (hbl reachBytes fun x hx => hr x ?_) (by decide)
      rw [hd1]
      simp only [DataW.weights, Try.underlying22]
      refine List.mem_cons_of_mem _ (List.mem_append.2 (.inl (weights_all (d := D i) (List.mem_map.2 ⟨i, List.mem_range.2 hlt, rfl⟩) x ?_)))
      rw [hDi]
      simp only [DataW.weights, Try.underlying28]
      exact DataW.weights_mem_each (j := 2) rfl (by rw [List.getElem?_map, g2]; rfl) x hx
    have build : ∀ k, k ≤ len → ∃ (cs : List Value) (es : List Thing), es.length = k ∧ Els (ThR w (fun j => j < w.heap.size)) 3 cs es ∧ (∀ j u, cs[j]? = some u → w.cell? (a.add j) = some u) ∧ ThingsOk es := by
      intro k
      induction k with
      | zero => exact fun _ => ⟨[], [], rfl, Els.nil _ _, fun j u h => by simp at h, fun e h => by cases h⟩
      | succ k ih =>
        intro hk
        obtain ⟨cs, es, hlen, hE, hc, hF⟩ := ih (by omega)
        obtain ⟨e, s, q0, q1, q2, hq, hn, hb1, hb2⟩ := key k (by omega)
        refine ⟨cs ++ [.int .i64 e.what, .int .u64 e.n, s], es ++ [e], by simp [hlen], Els.snoc hE rfl ⟨s, rfl, hq, hn⟩, ?_, ?_⟩
        · intro j u hu
          have hcl : cs.length = k * 3 := by rw [hE.1, hlen]
          rcases Nat.lt_or_ge j cs.length with hj | hj
          · rw [List.getElem?_append_left hj] at hu
            exact hc j u hu
          · rw [List.getElem?_append_right hj] at hu
            obtain ⟨i, rfl⟩ : ∃ i, j = k * 3 + i := ⟨j - k * 3, by omega⟩
            rw [hcl, Nat.add_sub_cancel_left] at hu
            match i, hu with
            | 0, hu => simp at hu; subst hu; exact q0
            | 1, hu => simp at hu; subst hu; exact q1
            | 2, hu => simp at hu; subst hu; exact q2
            | i + 3, hu => simp at hu
        · intro x hx
          rcases List.mem_append.1 hx with hx | hx
          · exact hF x hx
          · simp at hx; subst hx; exact ⟨hb1, hb2⟩
    obtain ⟨cs, es, hlen, hE, hc, hF⟩ := build len (Nat.le_refl _)
    refine ⟨es, ⟨cs, ⟨hE.1, some a, m, by rw [hlen], by omega, hm, fun h0 => ?_⟩, hE⟩, hF⟩
    obtain ⟨e, s, q0, _⟩ := key 0 (by omega)
    have hp := plain_addr (by simpa using q0)
    have h01 := q0
    rw [hp, add_plain] at h01
    refine ⟨a.block, a.off, by rw [← hp], lt_of_cell h01, fun j u hu => ?_⟩
    have := hc j u hu
    rw [hp, add_plain] at this
    exact this
end
end Go.Proofs.Ytgmlgdfgooacbaa
