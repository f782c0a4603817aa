/-
  From the data of an argument to what the walk asks: an answer.
-/
import Derived.Test.YtciojggkcmdjiaaDoorPutsL15
namespace Go.Proofs.YtciojggkcmdjiaaDoor
open Go.RowKit Go.ChangeShapes Go.WideShapes Go.ChangeAt Go.Deep
set_option linter.unusedSimpArgs false
set_option linter.unusedVariables false
set_option maxRecDepth 100000

theorem i64_top {n : Int} (h : (Lit.int .i64 n).wf = true) : n ≤ 9223372036854775807 := by
  simp only [Lit.wf, IntKind.min, IntKind.max, IntKind.signed, IntKind.bits, Bool.and_eq_true, decide_eq_true_eq] at h
  simp at h
  omega
section
variable {H : Type} {enc : TypeId × Value → H} {w : World}
theorem acells : Tryd.prog.cellsOf 4 = 1 ∧ Tryd.prog.cellsOf 28 = 1 ∧ Tryd.prog.cellsOf 37 = 1 ∧ Tryd.prog.cellsOf 38 = 1 ∧ Tryd.prog.cellsOf 39 = 1 ∧ Tryd.prog.cellsOf 46 = 4 ∧ Tryd.prog.cellsOf 86 = 3 ∧ Tryd.prog.cellsOf 24 = 1 :=
  ⟨by kernel_rfl, by kernel_rfl, by kernel_rfl, by kernel_rfl, by kernel_rfl, by kernel_rfl, by kernel_rfl, by kernel_rfl⟩
/-- A slice of code points that came in. -/
theorem open_chars {fuel : Nat} {v : Value} {y : DataW H × List MemPlace} (h : DataW.trod enc Tryd.prog w 0 (fun _ => true) true fuel 37 [v] = some y) :
    ∃ t : List Int, ChsRd w (fun j => j < w.heap.size) v t := by
  rcases open_ints Tryd.underlying37 Tryd.underlying76 kcells.2.1 h with ⟨hcs, rfl⟩ | ⟨a, len, cap, zs, hcs, _, hl, hm, hz, rfl, hcell, hwf⟩
  · injection hcs with hv
    subst hv
    exact ⟨[], Rd.nil _ _ _⟩
  · injection hcs with hv
    subst hv
    simp only [if_true] at hz
    have hlen : (zs.take len).length = len := by rw [List.length_take]; omega
    refine ⟨zs.take len, ?_⟩
    unfold ChsRd
    rw [hlen]
    refine ⟨by unfold chCells; rw [List.length_map, hlen, Nat.mul_one], some a, cap, rfl, hl, hm, fun h0 => ?_⟩
    have h00 := hcell 0 (by omega)
    have hp := plain_addr h00
    have h01 := h00
    rw [hp, add_plain] at h01
    refine ⟨a.block, a.off, by rw [← hp], lt_of_cell h01, fun j u hu => ?_⟩
    have hj : j < len := by have := (List.getElem?_eq_some_iff.1 hu).1; unfold chCells at this; rw [List.length_map, hlen] at this; exact this
    have hc := hcell j (by omega)
    rw [hp, add_plain] at hc
    rw [hc, ← hu]
    have hz2 : zs.getD j 0 = zs[j] := by simp [List.getD, List.getElem?_eq_getElem (show j < zs.length by omega)]
    rw [hz2]
    simp [chCells, List.getElem?_take, hj, List.getElem?_eq_getElem (show j < zs.length by omega)]
/-- An operation's cells. -/
theorem open_op {fuel : Nat} {cs : List Value} {y : DataW H × List MemPlace} (h : DataW.trod enc Tryd.prog w 0 (fun _ => true) true fuel 46 cs = some y) :
    ∃ (e : Opr) (q : Option Addr) (k : Nat), cs = [.int .u32 e.cl, .int .u64 e.rq, .slice q e.us.length k, .bool e.un] ∧ UtsRd w (fun j => j < w.heap.size) (.slice q e.us.length k) e.us ∧ (0 ≤ e.cl ∧ e.cl ≤ 4294967295) ∧ (0 ≤ e.rq ∧ e.rq ≤ 18446744073709551615) ∧ ∀ u ∈ e.us, WfU u := by
  obtain ⟨k8, k32, ku, k64, ki, kn⟩ := kcells
  obtain ⟨kb, -, -, -, -, ko, -, kus⟩ := acells
  obtain ⟨y0, y1, y2, n, _, hl, t0, t1, t2⟩ := trod_struct3 Tryd.underlying46 h
  rw [ko] at hl
  match cs, hl with
  | [c0, c1, c2, c3], _ =>
    simp only [ki, kb, kus, List.drop_zero, List.drop_succ_cons, List.take_succ_cons, List.take_zero, List.take_nil] at t0 t1 t2
    obtain ⟨z0, z1, m, _, _, s0, s1⟩ := trod_struct2 Tryd.underlying44 t0
    simp only [k8, k32, ku, k64, ki, List.drop_zero, List.drop_succ_cons, List.take_succ_cons, List.take_zero, List.take_nil] at s0 s1
    obtain ⟨x0, e0, _, w0⟩ := DataW.trod_int Tryd.underlying22 s0
    obtain ⟨x1, e1, _, w1⟩ := DataW.trod_int Tryd.underlying23 s1
    obtain ⟨us, hU, hW⟩ := open_units t1
    obtain ⟨p, c, rfl⟩ := hU.slice
    obtain ⟨b, e3, _⟩ := DataW.trod_bool Tryd.underlying4 t2
    injection e0 with e0
    injection e1 with e1
    injection e3 with e3
    subst e0; subst e1; subst e3
    exact ⟨⟨x0, x1, us, b⟩, p, c, rfl, hU, u32_bounds w0, u64_bounds w1, hW⟩
/-- A seat's cells. -/
theorem open_seat {fuel : Nat} {cs : List Value} {y : DataW H × List MemPlace} (h : DataW.trod enc Tryd.prog w 0 (fun _ => true) true fuel 86 cs = some y) : ∃ e : St, cs = stCells e ∧ WfS e := by
  obtain ⟨k8, k32, ku, k64, ki, kn⟩ := kcells
  obtain ⟨kb, -, -, -, -, ko, ks, kus⟩ := acells
  obtain ⟨y0, y1, y2, n, _, hl, t0, t1, t2⟩ := trod_struct3 Tryd.underlying86 h
  rw [ks] at hl
  match cs, hl with
  | [c0, c1, c2], _ =>
    simp only [k8, ku, k64, List.drop_zero, List.drop_succ_cons, List.take_succ_cons, List.take_zero, List.take_nil] at t0 t1 t2
    obtain ⟨x0, e0, _, w0⟩ := DataW.trod_int Tryd.underlying22 t0
    obtain ⟨x1, e1, _, _⟩ := DataW.trod_int Tryd.underlying3 t1
    obtain ⟨x2, e2, _, w2⟩ := DataW.trod_int Tryd.underlying23 t2
    injection e0 with e0
    injection e1 with e1
    injection e2 with e2
    subst e0; subst e1; subst e2
    exact ⟨⟨x0, x1, x2⟩, rfl, ⟨u32_bounds w0, u64_bounds w2⟩⟩
/-- A slice of operations that came in. -/
theorem open_ops {fuel : Nat} {v : Value} {y : DataW H × List MemPlace} (h : DataW.trod enc Tryd.prog w 0 (fun _ => true) true fuel 38 [v] = some y) :
    ∃ os : List Opr, OpsRd w (fun j => j < w.heap.size) v os ∧ ∀ o ∈ os, (0 ≤ o.cl ∧ o.cl ≤ 4294967295) ∧ (0 ≤ o.rq ∧ o.rq ≤ 18446744073709551615) ∧ ∀ u ∈ o.us, WfU u := by
  rcases open_slice Tryd.underlying38 h with ⟨hcs, hd⟩ | ⟨a, len, cap, m, n, D, Pl, hcs, _, hl, hm, hmm, hd, hi⟩
  · injection hcs with hv
    rw [hv]
    exact ⟨[], ⟨[], Rd.nil _ _ _, Els.nil _ _⟩, fun e h => by cases h⟩
  · injection hcs with hv
    rw [hv]
    simp only [if_true] at hmm
    subst hmm
    have key : ∀ i, i < len → ∃ (e : Opr) (q : Option Addr) (k : Nat), w.cell? (a.add (i * 4)) = some (.int .u32 e.cl) ∧ w.cell? (a.add (i * 4 + 1)) = some (.int .u64 e.rq) ∧ w.cell? (a.add (i * 4 + 2)) = some (.slice q e.us.length k) ∧ w.cell? (a.add (i * 4 + 3)) = some (.bool e.un) ∧
        UtsRd w (fun j => j < w.heap.size) (.slice q e.us.length k) e.us ∧ ((0 ≤ e.cl ∧ e.cl ≤ 4294967295) ∧ (0 ≤ e.rq ∧ e.rq ≤ 18446744073709551615) ∧ ∀ u ∈ e.us, WfU u) := by
      intro i hlt
      obtain ⟨cs', hc, ht'⟩ := hi i (by omega)
      rw [acells.2.2.2.2.2.1] at hc
      obtain ⟨e, q, k, rfl, hu, hw⟩ := open_op ht'
      obtain ⟨_, hcl, hat⟩ := World.cells?_some hc
      have h := fun j hj => (congrArg (w.cell? ·) (Go.Deep.add_add a (i * 4) j)).symm.trans (hat j hj)
      refine ⟨e, q, k, ?_, h 1 (by decide), h 2 (by decide), h 3 (by decide), hu, hw⟩
      have h0 := h 0 (by decide)
      rw [Nat.add_zero] at h0
      exact h0
    have build : ∀ n, n ≤ len → ∃ os : List Opr, os.length = n ∧ (∀ i (h : i < os.length), ∃ q k, w.cell? (a.add (i * 4)) = some (.int .u32 os[i].cl) ∧ w.cell? (a.add (i * 4 + 1)) = some (.int .u64 os[i].rq) ∧ w.cell? (a.add (i * 4 + 2)) = some (.slice q os[i].us.length k) ∧ w.cell? (a.add (i * 4 + 3)) = some (.bool os[i].un) ∧
        UtsRd w (fun j => j < w.heap.size) (.slice q os[i].us.length k) os[i].us) ∧ ∀ o ∈ os, (0 ≤ o.cl ∧ o.cl ≤ 4294967295) ∧ (0 ≤ o.rq ∧ o.rq ≤ 18446744073709551615) ∧ ∀ u ∈ o.us, WfU u := by
      intro n
      induction n with
      | zero => exact fun _ => ⟨[], rfl, fun i h => absurd h (by simp), fun e h => by cases h⟩
      | succ n ih =>
        intro hn
        obtain ⟨os, hlen, hk, hF⟩ := ih (by omega)
        obtain ⟨e, q, k, q0, q1, q2, q3, hu, hw⟩ := key n (by omega)
        refine ⟨os ++ [e], by simp [hlen], fun i hi' => ?_, ?_⟩
        · rw [List.length_append, List.length_singleton] at hi'
          by_cases hin : i < os.length
          · rw [List.getElem_append_left hin]
            exact hk i hin
          · obtain rfl : i = os.length := by omega
            simp only [List.getElem_append_right (Nat.le_refl _), Nat.sub_self, List.getElem_cons_zero]
            rw [hlen]
            exact ⟨q, k, q0, q1, q2, q3, hu⟩
        · intro x hx
          rcases List.mem_append.1 hx with hx | hx
          · exact hF x hx
          · simp at hx; subst hx; exact hw
    obtain ⟨os, hlen, hk, hF⟩ := build len (Nat.le_refl _)
    subst hlen
    rcases Nat.eq_zero_or_pos os.length with h0 | h0
    · obtain rfl := List.eq_nil_of_length_eq_zero h0
      exact ⟨[], ⟨[], ⟨rfl, some a, m, rfl, Nat.zero_le _, hm, fun h => absurd h (by simp)⟩, Els.nil _ _⟩, fun e h => by cases h⟩
    · obtain ⟨q, k, q0, _⟩ := hk 0 h0
      have hp := plain_addr (by simpa using q0)
      have h01 := q0
      rw [hp, add_plain] at h01
      refine ⟨os, ?_, hF⟩
      rw [hp]
      refine ops_of_cells (by omega) hm (lt_of_cell h01) fun i hi' => ?_
      obtain ⟨q, k, e0, e1, e2, e3, hu⟩ := hk i hi'
      rw [hp, add_plain] at e0 e1 e2 e3
      exact ⟨q, k, e0, e1, e2, e3, hu⟩
/-- A slice of seats that came in. -/
theorem open_seats {fuel : Nat} {v : Value} {y : DataW H × List MemPlace} (h : DataW.trod enc Tryd.prog w 0 (fun _ => true) true fuel 39 [v] = some y) :
    ∃ ss : List St, StsRd w (fun j => j < w.heap.size) v ss ∧ ∀ s ∈ ss, WfS s := by
  rcases open_slice Tryd.underlying39 h with ⟨hcs, hd⟩ | ⟨a, len, cap, m, n, D, Pl, hcs, _, hl, hm, hmm, hd, hi⟩
  · injection hcs with hv
    rw [hv]
    exact ⟨[], ⟨[], Rd.nil _ _ _, Els.nil _ _⟩, fun e h => by cases h⟩
  · injection hcs with hv
    rw [hv]
    simp only [if_true] at hmm
    subst hmm
    have key : ∀ i, i < len → ∃ (e : St), w.cell? (a.add (i * 3)) = some (.int .u32 e.cl) ∧ w.cell? (a.add (i * 3 + 1)) = some (.int .i64 e.pos) ∧ w.cell? (a.add (i * 3 + 2)) = some (.int .u64 e.til) ∧ WfS e := by
      intro i hlt
      obtain ⟨cs', hc, ht'⟩ := hi i (by omega)
      rw [acells.2.2.2.2.2.2.1] at hc
      obtain ⟨e, rfl, hw⟩ := open_seat ht'
      obtain ⟨_, hcl, hat⟩ := World.cells?_some hc
      have h := fun j hj => (congrArg (w.cell? ·) (Go.Deep.add_add a (i * 3) j)).symm.trans (hat j hj)
      refine ⟨e, ?_, h 1 (by decide), h 2 (by decide), hw⟩
      have h0 := h 0 (by decide)
      rw [Nat.add_zero] at h0
      exact h0
    have build : ∀ k, k ≤ len → ∃ (cs : List Value) (es : List St), es.length = k ∧ Els StR 3 cs es ∧ (∀ j u, cs[j]? = some u → w.cell? (a.add j) = some u) ∧ ∀ u ∈ es, WfS u := by
      intro k
      induction k with
      | zero => exact fun _ => ⟨[], [], rfl, Els.nil _ _, (fun j u h => by simp at h), (fun e h => by cases h)⟩
      | succ k ih =>
        intro hk
        obtain ⟨cs, es, hlen, hE, hc, hF⟩ := ih (by omega)
        obtain ⟨e, q0, q1, q2, hw⟩ := key k (by omega)
        refine ⟨cs ++ stCells e, es ++ [e], by simp [hlen], Els.snoc hE rfl (show StR (stCells e) e from rfl), ?_, ?_⟩
        · intro j u hu
          have hcl : cs.length = k * 3 := by rw [hE.1, hlen]
          rcases Nat.lt_or_ge j cs.length with hj | hj
          · rw [List.getElem?_append_left hj] at hu
            exact hc j u hu
          · rw [List.getElem?_append_right hj] at hu
            obtain ⟨i, rfl⟩ : ∃ i, j = k * 3 + i := ⟨j - k * 3, by omega⟩
            rw [hcl, Nat.add_sub_cancel_left] at hu
            unfold stCells at hu
            match i, hu with
            | 0, hu => simp at hu; subst hu; exact q0
            | 1, hu => simp at hu; subst hu; exact q1
            | 2, hu => simp at hu; subst hu; exact q2
            | i + 3, hu => simp at hu
        · intro x hx
          rcases List.mem_append.1 hx with hx | hx
          · exact hF x hx
          · simp at hx; subst hx; exact hw
    obtain ⟨cs, es, hlen, hE, hc, hF⟩ := build len (Nat.le_refl _)
    refine ⟨es, ⟨cs, ⟨hE.1, some a, m, by rw [hlen], by omega, hm, fun h0 => ?_⟩, hE⟩, hF⟩
    obtain ⟨e, q0, _⟩ := key 0 (by omega)
    have hp := plain_addr (by simpa using q0)
    have h01 := q0
    rw [hp, add_plain] at h01
    refine ⟨a.block, a.off, by rw [← hp], lt_of_cell h01, fun j u hu => ?_⟩
    have := hc j u hu
    rw [hp, add_plain] at this
    exact this
/-- An answer that came in. -/
theorem open_answer {r : Reach} {b0 : Nat} {v : Value} {d : DataW H} {ps : List MemPlace} (hv : Value.okWide Tryd.prog w r b0 41 v) (h : DataW.Trod enc Tryd.prog w 0 (fun _ => true) true 41 v d ps) :
    ∃ a : An, AnV w (fun j => j < w.heap.size) v a ∧ WfR a := by
  have hs := Tryd.underlying41
  obtain ⟨⟨cs⟩, rfl, hsz⟩ := okWide_struct hs hv
  have hC : Tryd.prog.cellsOf 41 = 7 := by kernel_rfl
  rw [hC] at hsz
  obtain ⟨fuel, hf⟩ := h
  obtain ⟨xs, n, _, hx, hl, hlen, hfld⟩ := DataW.trod_struct hs hf
  match cs, hsz with
  | [c0, c1, c2, c3, c4, c5, c6], _ =>
    have t0 := hfld 0 _ rfl
    have t1 := hfld 1 _ rfl
    have t2 := hfld 2 _ rfl
    have t3 := hfld 3 _ rfl
    have t4 := hfld 4 _ rfl
    have t5 := hfld 5 _ rfl
    have t6 := hfld 6 _ rfl
    obtain ⟨k8, -, k32, k64, -, -⟩ := kcells
    obtain ⟨kb, ke, kc, ko, ks, -, -, -⟩ := acells
    simp only [Value.cells, k8, k32, k64, kb, ke, kc, ko, ks, List.drop_zero, List.drop_succ_cons, List.take_succ_cons, List.take_zero] at t0 t1 t2 t3 t4 t5 t6
    match xs, hlen with
    | [y0, y1, y2, y3, y4, y5, y6], _ =>
      simp only [List.getElem?_cons_zero, List.getElem?_cons_succ] at t0 t1 t2 t3 t4 t5 t6
      obtain ⟨x0, e0, _, w0⟩ := DataW.trod_int Tryd.underlying28 t0
      obtain ⟨x1, e1, _, w1⟩ := DataW.trod_int Tryd.underlying22 t1
      obtain ⟨x2, e2, _, w2⟩ := DataW.trod_int Tryd.underlying23 t2
      obtain ⟨x3, e3, _⟩ := DataW.trod_bool Tryd.underlying4 t3
      obtain ⟨tx, hT⟩ := open_chars t4
      obtain ⟨os, hO, hWo⟩ := open_ops t5
      obtain ⟨ss, hS, hWs⟩ := open_seats t6
      obtain ⟨p, c, rfl⟩ := hT.slice
      obtain ⟨q, d, rfl⟩ := hO.slice
      obtain ⟨s, e, rfl⟩ := hS.slice
      injection e0 with e0
      injection e1 with e1
      injection e2 with e2
      injection e3 with e3
      subst e0; subst e1; subst e2; subst e3
      exact ⟨⟨x0, x1, x2, x3, tx, os, ss⟩, ⟨p, c, q, d, s, e, rfl, hT, hO, hS⟩, ⟨i64_top w0, u32_bounds w1, (u64_bounds w2).1, hWo, hWs⟩⟩
end
end Go.Proofs.YtciojggkcmdjiaaDoor
