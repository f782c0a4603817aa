/-
  Calls of a law, and entries, as they come in. (Printed by wip/gen_ops.py.)
-/
import Derived.Test.YtmoifhoncanjjaaOpen
import Derived.Test.YtmoifhoncanjjaaRfNew
namespace Go.Proofs.Ytmoifhoncanjjaa
open Go.RowKit Go.ChangeShapes Go.WideShapes Go.ChangeAt Go.Deep
set_option linter.unusedSimpArgs false
set_option linter.unusedVariables false

structure Opn where
  what : Int
  e : Ent
  n : Int
/-- A call's cells. -/
def OpR (w : World) (S : Nat → Prop) (c : List Value) (t : Opn) : Prop := ∃ s, c = [.int .i64 t.what, .int .u64 t.e.t, .int .u32 t.e.c, .int .u64 t.e.r, s, .int .i8 t.n] ∧ CmdN w S s t.e.cmd
def OpsRd (w : World) (S : Nat → Prop) (v : Value) (ts : List Opn) : Prop := ∃ cs, Rd w S 6 v ts.length cs ∧ Els (OpR w S) 6 cs ts
theorem OpsRd.below {w w' : World} {S : Nat → Prop} {v : Value} {ts : List Opn} (h : OpsRd w S v ts) (hb : Below w.heap.size w w') : OpsRd w' S v ts := by
  obtain ⟨cs, hr, hE⟩ := h
  exact ⟨cs, hr.below (by decide) hb, hE.imp fun c t _ ⟨s, h1, h2⟩ => ⟨s, h1, h2.keep (fun k hk _ => hb.block k hk) (fun _ h _ => h)⟩⟩
/-- The number is of its kind; the command is not too long. -/
def OpnOk (t : Opn) : Prop := (-128 ≤ t.n ∧ t.n ≤ 127) ∧ t.e.cmd.length ≤ 140737488355328
def OpsOk (ts : List Opn) : Prop := ∀ t ∈ ts, OpnOk t
theorem i8_bounds {n : Int} (h : (Lit.int .i8 n).wf = true) : -128 ≤ n ∧ n ≤ 127 := by
  simp only [Lit.wf, IntKind.min, IntKind.max, IntKind.signed, IntKind.bits, Bool.and_eq_true, decide_eq_true_eq] at h
  simp at h
  omega
theorem six_at {cs : List Value} {k : Nat} {a b c d e f : Value} (h : (cs.drop k).take 6 = [a, b, c, d, e, f]) : cs[k]? = some a ∧ cs[k + 1]? = some b ∧ cs[k + 2]? = some c ∧ cs[k + 3]? = some d ∧ cs[k + 4]? = some e ∧ cs[k + 5]? = some f := by
  have g : ∀ j, j < 6 → cs[k + j]? = [a, b, c, d, e, f][j]? := by
    intro j hj
    rw [← h, List.getElem?_take, if_pos hj, List.getElem?_drop]
  exact ⟨g 0 (by omega), g 1 (by omega), g 2 (by omega), g 3 (by omega), g 4 (by omega), g 5 (by omega)⟩
/-- The k-th call. -/
theorem OpsRd.at_ {w : World} {S : Nat → Prop} {p : Option Addr} {c k : Nat} {ts : List Opn} (h : OpsRd w S (.slice p ts.length c) ts) (hk : k < ts.length) :
    ∃ bk off q d, p = some ⟨bk, off, none⟩ ∧ w.cell? ⟨bk, off + k * 6, none⟩ = some (.int .i64 ts[k].what) ∧ w.cell? ⟨bk, off + k * 6 + 1, none⟩ = some (.int .u64 ts[k].e.t) ∧ w.cell? ⟨bk, off + k * 6 + 2, none⟩ = some (.int .u32 ts[k].e.c) ∧ w.cell? ⟨bk, off + k * 6 + 3, none⟩ = some (.int .u64 ts[k].e.r) ∧
      w.cell? ⟨bk, off + k * 6 + 4, none⟩ = some (.slice q ts[k].e.cmd.length d) ∧ w.cell? ⟨bk, off + k * 6 + 5, none⟩ = some (.int .i8 ts[k].n) ∧ CmdN w S (.slice q ts[k].e.cmd.length d) ts[k].e.cmd ∧ ts.length ≤ c := by
  obtain ⟨cs, hr, hE⟩ := h
  obtain ⟨bk, off, he, hlc, _, hcell⟩ := Rd.addr hr (by omega)
  obtain ⟨s, hs, hq⟩ := hE.2 k ts[k] (List.getElem?_eq_getElem hk)
  obtain ⟨e0, e1, e2, e3, e4, e5⟩ := six_at hs
  obtain ⟨q, d, rfl⟩ := Rd.slice hq.1
  exact ⟨bk, off, q, d, he, hcell _ _ e0, hcell _ _ e1, hcell _ _ e2, hcell _ _ e3, hcell _ _ e4, hcell _ _ e5, hq, hlc⟩
theorem opCells : Try.prog.cellsOf 55 = 6 := by kernel_rfl
section
variable {H : Type} {enc : TypeId × Value → H} {w : World}
theorem open_nil {fuel : Nat} {v : Value} {y : DataW H × List MemPlace} (h : DataW.trod enc Try.prog w 0 (fun _ => true) true fuel 31 [v] = some y) : NilOk v := by
  rcases open_ints Try.underlying31 Try.underlying5 cells1 h with ⟨hcs, rfl⟩ | ⟨a, len, cap, zs, hcs, _⟩
  · injection hcs with hv
    subst hv
    exact NilOk.nil
  · injection hcs with hv
    subst hv
    exact NilOk.some
/-- A slice of entries that came in. -/
theorem open_entriesN {v : Value} {d : DataW H} {ps : List MemPlace} (h : DataW.Trod enc Try.prog w 0 (fun _ => true) true 23 v d ps) (hv : ∃ a len cap, v = .slice a len cap)
    (hr : ∀ n ∈ d.weights Try.prog 23, n ≤ reachBytes) : ∃ es, EntsN w (fun j => j < w.heap.size) v es ∧ Fits es := by
  obtain ⟨a0, l0, c0, rfl⟩ := hv
  obtain ⟨fuel, hf⟩ := h
  rcases open_slice_fields Try.underlying23 Try.underlying33 (by kernel_rfl) (by kernel_rfl) hf with ⟨hcs, hd⟩ | ⟨a, len, cap, m, D, Pl, hcs, _, hl, hm, hmm, hd, hi⟩
  · simp only [Value.cells] at hcs
    injection hcs with hv
    rw [hv]
    exact ⟨[], ⟨[], Rd.nil _ _ _, Els.nil _ _⟩, fun e h => by cases h⟩
  · simp only [Value.cells] at hcs
    injection hcs with hv
    rw [hv]
    simp only [if_true] at hmm
    subst hmm
    injection hd with hd1 _
    have key : ∀ i, i < len → ∃ (e : Ent) (s : Value), w.cell? (a.add (i * 4)) = some (.int .u64 e.t) ∧ w.cell? (a.add (i * 4 + 1)) = some (.int .u32 e.c) ∧ w.cell? (a.add (i * 4 + 2)) = some (.int .u64 e.r) ∧ w.cell? (a.add (i * 4 + 3)) = some s ∧
        CmdN w (fun j => j < w.heap.size) s e.cmd ∧ e.cmd.length ≤ 140737488355328 := by
      intro i hlt
      obtain ⟨ys, n, hDi, _, _, hfld⟩ := hi i (by omega)
      obtain ⟨v0, y0, c0, g0, t0⟩ := hfld 0 _ rfl
      obtain ⟨v1, y1, c1, g1, t1⟩ := hfld 1 _ rfl
      obtain ⟨v2, y2, c2, g2, t2⟩ := hfld 2 _ rfl
      obtain ⟨v3, y3, c3, g3, t3⟩ := hfld 3 _ rfl
      obtain ⟨x0, e0, _, _⟩ := DataW.trod_int Try.underlying22 t0
      obtain ⟨x1, e1, _, _⟩ := DataW.trod_int Try.underlying30 t1
      obtain ⟨x2, e2, _, _⟩ := DataW.trod_int Try.underlying22 t2
      injection e0 with e0
      injection e1 with e1
      injection e2 with e2
      subst e0; subst e1; subst e2
      obtain ⟨bs, hb, hbl⟩ := open_bytes t3
      refine ⟨⟨x0, x1, x2, bs⟩, v3, c0, c1, c2, c3, ⟨hb, open_nil t3⟩, ?_⟩
      refine Nat.le_trans (hbl reachBytes fun x hx => hr x ?_) (by decide)
      rw [hd1]
      simp only [DataW.weights, Try.underlying23]
      refine List.mem_cons_of_mem _ (List.mem_append.2 (.inl (weights_all (d := D i) (List.mem_map.2 ⟨i, List.mem_range.2 hlt, rfl⟩) x ?_)))
      rw [hDi]
      simp only [DataW.weights, Try.underlying33]
      exact DataW.weights_mem_each (j := 3) rfl (by rw [List.getElem?_map, g3]; rfl) x hx
    have build : ∀ k, k ≤ len → ∃ (cs : List Value) (es : List Ent), es.length = k ∧ Els (EntR (CmdN w (fun j => j < w.heap.size))) 4 cs es ∧ (∀ j u, cs[j]? = some u → w.cell? (a.add j) = some u) ∧ Fits es := by
      intro k
      induction k with
      | zero => exact fun _ => ⟨[], [], rfl, Els.nil _ _, fun j u h => by simp at h, fun e h => by cases h⟩
      | succ k ih =>
        intro hk
        obtain ⟨cs, es, hlen, hE, hc, hF⟩ := ih (by omega)
        obtain ⟨e, s, q0, q1, q2, q3, hq, hb⟩ := key k (by omega)
        refine ⟨cs ++ [.int .u64 e.t, .int .u32 e.c, .int .u64 e.r, s], es ++ [e], by simp [hlen], Els.snoc hE rfl ⟨s, rfl, hq⟩, ?_, ?_⟩
        · intro j u hu
          have hcl : cs.length = k * 4 := by rw [hE.1, hlen]
          rcases Nat.lt_or_ge j cs.length with hj | hj
          · rw [List.getElem?_append_left hj] at hu
            exact hc j u hu
          · rw [List.getElem?_append_right hj] at hu
            obtain ⟨i, rfl⟩ : ∃ i, j = k * 4 + i := ⟨j - k * 4, by omega⟩
            rw [hcl, Nat.add_sub_cancel_left] at hu
            match i, hu with
            | 0, hu => simp at hu; subst hu; exact q0
            | 1, hu => simp at hu; subst hu; exact q1
            | 2, hu => simp at hu; subst hu; exact q2
            | 3, hu => simp at hu; subst hu; exact q3
            | i + 4, hu => simp at hu
        · intro x hx
          rcases List.mem_append.1 hx with hx | hx
          · exact hF x hx
          · simp at hx; subst hx; exact hb
    obtain ⟨cs, es, hlen, hE, hc, hF⟩ := build len (Nat.le_refl _)
    refine ⟨es, ⟨cs, ⟨hE.1, some a, m, by rw [hlen], by omega, hm, fun h0 => ?_⟩, hE⟩, hF⟩
    obtain ⟨e, s, q0, _⟩ := key 0 (by omega)
    have hp := plain_addr (by simpa using q0)
    have h01 := q0
    rw [hp, add_plain] at h01
    refine ⟨a.block, a.off, by rw [← hp], lt_of_cell h01, fun j u hu => ?_⟩
    have := hc j u hu
    rw [hp, add_plain] at this
    exact this

/-- A slice of calls that came in. -/
theorem open_ops {v : Value} {d : DataW H} {ps : List MemPlace} (h : DataW.Trod enc Try.prog w 0 (fun _ => true) true 49 v d ps) (hv : ∃ a len cap, v = .slice a len cap)
    (hr : ∀ n ∈ d.weights Try.prog 49, n ≤ reachBytes) : ∃ ts, OpsRd w (fun j => j < w.heap.size) v ts ∧ OpsOk ts := by
  obtain ⟨a0, l0, c0, rfl⟩ := hv
  obtain ⟨fuel, hf⟩ := h
  rcases open_slice Try.underlying49 hf with ⟨hcs, hd⟩ | ⟨a, len, cap, m, nn, D, Pl, hcs, _, hl, hm, hmm, hd, hi⟩
  · simp only [Value.cells] at hcs
    injection hcs with hv
    rw [hv]
    exact ⟨[], ⟨[], Rd.nil _ _ _, Els.nil _ _⟩, fun e h => by cases h⟩
  · simp only [Value.cells] at hcs
    injection hcs with hv
    rw [hv]
    simp only [if_true] at hmm
    subst hmm
    injection hd with hd1 _
    have key : ∀ i, i < len → ∃ (e : Opn) (s : Value), w.cell? (a.add (i * 6)) = some (.int .i64 e.what) ∧ w.cell? (a.add (i * 6 + 1)) = some (.int .u64 e.e.t) ∧ w.cell? (a.add (i * 6 + 2)) = some (.int .u32 e.e.c) ∧ w.cell? (a.add (i * 6 + 3)) = some (.int .u64 e.e.r) ∧ w.cell? (a.add (i * 6 + 4)) = some s ∧ w.cell? (a.add (i * 6 + 5)) = some (.int .i8 e.n) ∧
        CmdN w (fun j => j < w.heap.size) s e.e.cmd ∧ OpnOk e := by
      intro i hlt
      obtain ⟨cs', hc, ht'⟩ := hi i (by omega)
      rw [opCells] at hc
      obtain ⟨ys, n', _, hy, hlen, hyl, hfld⟩ := DataW.trod_struct Try.underlying55 ht'
      simp only [Prod.mk.injEq] at hy
      obtain ⟨hDi, -⟩ := hy
      obtain ⟨_, hcl, hat⟩ := World.cells?_some hc
      match cs', hcl with
      | [k0, k1, k2, k3, k4, k5], _ =>
        obtain ⟨y0, y1, y2, rfl⟩ : ∃ a b c, ys = [a, b, c] := by
          match ys, hyl with
          | [a, b, c], _ => exact ⟨a, b, c, rfl⟩
        have g0 := hfld 0 _ rfl
        have g1 := hfld 1 _ rfl
        have g2 := hfld 2 _ rfl
        have t0 : DataW.trod enc Try.prog w 0 (fun _ => true) true n' 3 [k0] = some y0 := g0
        have t1 : DataW.trod enc Try.prog w 0 (fun _ => true) true n' 33 [k1, k2, k3, k4] = some y1 := g1
        have t2 : DataW.trod enc Try.prog w 0 (fun _ => true) true n' 50 [k5] = some y2 := g2
        obtain ⟨x0, e0, _, _⟩ := DataW.trod_int Try.underlying3 t0
        obtain ⟨x5, e5, _, w5⟩ := DataW.trod_int Try.underlying50 t2
        obtain ⟨zs, n2, _, hz, _, hzl, hf2⟩ := DataW.trod_struct Try.underlying33 t1
        obtain ⟨z0, z1, z2, z3, rfl⟩ : ∃ a b c d, zs = [a, b, c, d] := by
          match zs, hzl with
          | [a, b, c, d], _ => exact ⟨a, b, c, d, rfl⟩
        have q0 := hf2 0 _ rfl
        have q1 := hf2 1 _ rfl
        have q2 := hf2 2 _ rfl
        have q3 := hf2 3 _ rfl
        have r0 : DataW.trod enc Try.prog w 0 (fun _ => true) true n2 22 [k1] = some z0 := q0
        have r1 : DataW.trod enc Try.prog w 0 (fun _ => true) true n2 30 [k2] = some z1 := q1
        have r2 : DataW.trod enc Try.prog w 0 (fun _ => true) true n2 22 [k3] = some z2 := q2
        have r3 : DataW.trod enc Try.prog w 0 (fun _ => true) true n2 31 [k4] = some z3 := q3
        obtain ⟨x1, e1, _, _⟩ := DataW.trod_int Try.underlying22 r0
        obtain ⟨x2, e2, _, _⟩ := DataW.trod_int Try.underlying30 r1
        obtain ⟨x3, e3, _, _⟩ := DataW.trod_int Try.underlying22 r2
        injection e0 with e0
        injection e1 with e1
        injection e2 with e2
        injection e3 with e3
        injection e5 with e5
        subst e0; subst e1; subst e2; subst e3; subst e5
        obtain ⟨bs, hb, hbl⟩ := open_bytes r3
        have at_ : ∀ j, j < 6 → w.cell? (a.add (i * 6 + j)) = [Value.int .i64 x0, .int .u64 x1, .int .u32 x2, .int .u64 x3, k4, .int .i8 x5][j]? := fun j hj => by
          rw [← Go.Deep.add_add]
          exact hat j hj
        refine ⟨⟨x0, ⟨x1, x2, x3, bs⟩, x5⟩, k4, by simpa using at_ 0 (by omega), at_ 1 (by omega), at_ 2 (by omega), at_ 3 (by omega), at_ 4 (by omega), at_ 5 (by omega), ⟨hb, open_nil r3⟩, i8_bounds w5, ?_⟩
        refine Nat.le_trans (hbl reachBytes fun x hx => hr x ?_) (by decide)
        rw [hd1]
        simp only [DataW.weights, Try.underlying49]
        refine List.mem_cons_of_mem _ (List.mem_append.2 (.inl (weights_all (d := D i) (List.mem_map.2 ⟨i, List.mem_range.2 hlt, rfl⟩) x ?_)))
        rw [hDi]
        simp only [DataW.weights, Try.underlying55]
        refine DataW.weights_mem_each (j := 1) (t := 33) (d := y1.1) rfl rfl x ?_
        rw [hz]
        simp only [DataW.weights, Try.underlying33]
        exact DataW.weights_mem_each (j := 3) (t := 31) rfl rfl x hx
    have build : ∀ k, k ≤ len → ∃ (cs : List Value) (es : List Opn), es.length = k ∧ Els (OpR w (fun j => j < w.heap.size)) 6 cs es ∧ (∀ j u, cs[j]? = some u → w.cell? (a.add j) = some u) ∧ OpsOk es := by
      intro k
      induction k with
      | zero => exact fun _ => ⟨[], [], rfl, Els.nil _ _, fun j u h => by simp at h, fun e h => by cases h⟩
      | succ k ih =>
        intro hk
        obtain ⟨cs, es, hlen, hE, hc, hF⟩ := ih (by omega)
        obtain ⟨e, s, q0, q1, q2, q3, q4, q5, hq, hb⟩ := key k (by omega)
        refine ⟨cs ++ [.int .i64 e.what, .int .u64 e.e.t, .int .u32 e.e.c, .int .u64 e.e.r, s, .int .i8 e.n], es ++ [e], by simp [hlen], Els.snoc hE rfl ⟨s, rfl, hq⟩, ?_, ?_⟩
        · intro j u hu
          have hcl : cs.length = k * 6 := by rw [hE.1, hlen]
          rcases Nat.lt_or_ge j cs.length with hj | hj
          · rw [List.getElem?_append_left hj] at hu
            exact hc j u hu
          · rw [List.getElem?_append_right hj] at hu
            obtain ⟨i, rfl⟩ : ∃ i, j = k * 6 + i := ⟨j - k * 6, by omega⟩
            rw [hcl, Nat.add_sub_cancel_left] at hu
            match i, hu with
            | 0, hu => simp at hu; subst hu; exact q0
            | 1, hu => simp at hu; subst hu; exact q1
            | 2, hu => simp at hu; subst hu; exact q2
            | 3, hu => simp at hu; subst hu; exact q3
            | 4, hu => simp at hu; subst hu; exact q4
            | 5, hu => simp at hu; subst hu; exact q5
            | i + 6, hu => simp at hu
        · intro x hx
          rcases List.mem_append.1 hx with hx | hx
          · exact hF x hx
          · simp at hx; subst hx; exact hb
    obtain ⟨cs, es, hlen, hE, hc, hF⟩ := build len (Nat.le_refl _)
    refine ⟨es, ⟨cs, ⟨hE.1, some a, m, by rw [hlen], by omega, hm, fun h0 => ?_⟩, hE⟩, hF⟩
    obtain ⟨e, s, q0, _⟩ := key 0 (by omega)
    have hp := plain_addr (by simpa using q0)
    have h01 := q0
    rw [hp, add_plain] at h01
    refine ⟨a.block, a.off, by rw [← hp], lt_of_cell h01, fun j u hu => ?_⟩
    have := hc j u hu
    rw [hp, add_plain] at this
    exact this
end
end Go.Proofs.Ytmoifhoncanjjaa
