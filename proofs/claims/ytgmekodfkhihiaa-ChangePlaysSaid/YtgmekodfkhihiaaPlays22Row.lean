/-
  For every input ChangePlays returns true, and its arguments read as they did. No condition. (Printed by wip/gen_plays22row.py.)
-/
import Derived.Test.YtgmekodfkhihiaaRows
import Derived.Test.YtgmekodfkhihiaaPlays22
import Derived.Test.YtgmekodfkhihiaaOpen22
import Derived.Lib.SmallJoins
import Derived.Carry
namespace Go.Proofs.Ytgmekodfkhihiaa
open Go.RowKit Go.ChangeShapes Go.WideShapes Go.ChangeAt Go.Deep
set_option linter.unusedSimpArgs false
set_option linter.unusedVariables false

theorem u64_bounds {n : Int} (h : (Lit.int .u64 n).wf = true) : 0 ≤ n ∧ n < 18446744073709551616 := by
  simp only [Lit.wf, IntKind.min, IntKind.max, IntKind.signed, IntKind.bits, Bool.and_eq_true, decide_eq_true_eq] at h
  simp at h
  omega
theorem i64_bounds {n : Int} (h : (Lit.int .i64 n).wf = true) : -9223372036854775808 ≤ n ∧ n ≤ 9223372036854775807 := by
  simp only [Lit.wf, IntKind.min, IntKind.max, IntKind.signed, IntKind.bits, Bool.and_eq_true, decide_eq_true_eq] at h
  simp at h
  omega
theorem i8_bounds {n : Int} (h : (Lit.int .i8 n).wf = true) : -128 ≤ n ∧ n ≤ 127 := by
  simp only [Lit.wf, IntKind.min, IntKind.max, IntKind.signed, IntKind.bits, Bool.and_eq_true, decide_eq_true_eq] at h
  simp at h
  omega
theorem canRead : ∀ t ∈ [3, 3, 50], CanRead t := by
  intro t ht
  simp only [List.mem_cons, List.not_mem_nil, or_false] at ht
  rcases ht with rfl | rfl | rfl <;> exact ⟨by kernel_rfl, of_decide_eq_true (by kernel_rfl)⟩

theorem entry_slice {H : Type} {enc : TypeId × Value → H} {W : World} {n : Nat} {v : Value} {y : DataW H × List MemPlace} (h : DataW.trod enc Try.prog W 0 (fun _ => true) true n 33 [v] = some y) : ∃ a l c, v = .slice a l c := by
  rcases open_slice_fields Try.underlying33 Try.underlying32 (by kernel_rfl) (by kernel_rfl) h with ⟨hcs, _⟩ | ⟨a, l, c, _, _, _, hcs, _⟩
  · injection hcs with hv; exact ⟨_, _, _, hv⟩
  · injection hcs with hv; exact ⟨_, _, _, hv⟩

theorem entry_bytes : Try.prog.bytesOf 32 = 48 := by kernel_rfl
theorem entries_len {H : Type} {enc : TypeId × Value → H} {W : World} {a : Option Addr} {l k : Nat} {d : DataW H} {ps : List MemPlace} (h : DataW.Trod enc Try.prog W 0 (fun _ => true) true 33 (.slice a l k) d ps) (hr : ∀ n ∈ d.weights Try.prog 33, n ≤ reachBytes) : l ≤ 1152921504606846976 := by
  obtain ⟨fuel, hf⟩ := h
  rcases open_slice_fields Try.underlying33 Try.underlying32 (by kernel_rfl) (by kernel_rfl) hf with ⟨hcs, hd⟩ | ⟨a, len, cap, m, D, Pl, hcs, _, hl, hm, hmm, hd, _⟩
  · simp only [Value.cells] at hcs
    injection hcs with hv
    injection hv with _ h2 _
    omega
  · simp only [Value.cells] at hcs
    injection hcs with hv
    injection hv with _ h2 _
    subst h2
    injection hd with hd1 _
    simp only [if_true] at hmm
    subst hmm
    have hw := hr ((l + (m - l)) * 48) (by
      rw [hd1]
      simp only [DataW.weights, Try.underlying33, List.length_map, List.length_range, entry_bytes]
      exact List.mem_cons_self)
    unfold reachBytes at hw
    omega
theorem opCells : Try.prog.cellsOf 56 = 7 := by kernel_rfl
set_option maxRecDepth 100000 in
theorem open_ops {H : Type} {enc : TypeId × Value → H} {w : World} {v : Value} {d : DataW H} {ps : List MemPlace} (h : DataW.Trod enc Try.prog w 0 (fun _ => true) true 50 v d ps) (hv : ∃ a len cap, v = .slice a len cap)
    (hr : ∀ n ∈ d.weights Try.prog 50, n ≤ reachBytes) : ∃ ts, OqsRd w (fun j => j < w.heap.size) v ts ∧ (∀ o ∈ ts, OqOk o) := by
  obtain ⟨a0, l0, c0, rfl⟩ := hv
  obtain ⟨fuel, hf⟩ := h
  rcases open_slice Try.underlying50 hf with ⟨hcs, hd⟩ | ⟨a, len, cap, m, nn, D, Pl, hcs, _, hl, hm, hmm, hd, hi⟩
  · simp only [Value.cells] at hcs
    injection hcs with hv
    rw [hv]
    exact ⟨[], ⟨[], Rd.nil _ _ _, Els.nil _ _⟩, fun e h => by cases h⟩
  · simp only [Value.cells] at hcs
    injection hcs with hv
    rw [hv]
    simp only [if_true] at hmm
    subst hmm
    injection hd with hd1 _
    have key : ∀ i, i < len → ∃ (e : Oq) (s : Value), w.cell? (a.add (i * 7)) = some (.int .i64 e.what) ∧ w.cell? (a.add (i * 7 + 1)) = some (.int .i8 e.ahead) ∧ w.cell? (a.add (i * 7 + 2)) = some (.int .i64 e.frm) ∧ w.cell? (a.add (i * 7 + 3)) = some (.int .u64 e.p.l) ∧ w.cell? (a.add (i * 7 + 4)) = some (.int .u64 e.p.b) ∧ w.cell? (a.add (i * 7 + 5)) = some (.int .u64 e.p.c) ∧ w.cell? (a.add (i * 7 + 6)) = some s ∧
        EntsRd w (fun j => j < w.heap.size) s e.p.es ∧ OqOk e := by
      intro i hlt
      obtain ⟨cs', hc, ht'⟩ := hi i (by omega)
      rw [opCells] at hc
      obtain ⟨ys, n', _, hy, hlen, hyl, hfld⟩ := DataW.trod_struct Try.underlying56 ht'
      simp only [Prod.mk.injEq] at hy
      obtain ⟨hDi, -⟩ := hy
      obtain ⟨_, hcl, hat⟩ := World.cells?_some hc
      match cs', hcl with
      | [k0, k1, k2, k3, k4, k5, k6], _ =>
        obtain ⟨y0, y1, y2, y3, rfl⟩ : ∃ a b c d, ys = [a, b, c, d] := by
          match ys, hyl with
          | [a, b, c, d], _ => exact ⟨a, b, c, d, rfl⟩
        have g0 := hfld 0 _ rfl
        have g1 := hfld 1 _ rfl
        have g2 := hfld 2 _ rfl
        have g3 := hfld 3 _ rfl
        have t0 : DataW.trod enc Try.prog w 0 (fun _ => true) true n' 3 [k0] = some y0 := g0
        have t1 : DataW.trod enc Try.prog w 0 (fun _ => true) true n' 54 [k1] = some y1 := g1
        have t2 : DataW.trod enc Try.prog w 0 (fun _ => true) true n' 3 [k2] = some y2 := g2
        have t3 : DataW.trod enc Try.prog w 0 (fun _ => true) true n' 45 [k3, k4, k5, k6] = some y3 := g3
        obtain ⟨x0, e0, _, _⟩ := DataW.trod_int Try.underlying3 t0
        obtain ⟨x1, e1, _, w1⟩ := DataW.trod_int Try.underlying54 t1
        obtain ⟨x2, e2, _, w2⟩ := DataW.trod_int Try.underlying3 t2
        obtain ⟨zs, n2, _, hz, _, hzl, hf2⟩ := DataW.trod_struct Try.underlying45 t3
        obtain ⟨z0, z1, z2, z3, rfl⟩ : ∃ a b c d, zs = [a, b, c, d] := by
          match zs, hzl with
          | [a, b, c, d], _ => exact ⟨a, b, c, d, rfl⟩
        have q0 := hf2 0 _ rfl
        have q1 := hf2 1 _ rfl
        have q2 := hf2 2 _ rfl
        have q3 := hf2 3 _ rfl
        have r0 : DataW.trod enc Try.prog w 0 (fun _ => true) true n2 28 [k3] = some z0 := q0
        have r1 : DataW.trod enc Try.prog w 0 (fun _ => true) true n2 28 [k4] = some z1 := q1
        have r2 : DataW.trod enc Try.prog w 0 (fun _ => true) true n2 28 [k5] = some z2 := q2
        have r3 : DataW.trod enc Try.prog w 0 (fun _ => true) true n2 33 [k6] = some z3 := q3
        obtain ⟨x3, e3, _, _⟩ := DataW.trod_int Try.underlying28 r0
        obtain ⟨x4, e4, _, w4⟩ := DataW.trod_int Try.underlying28 r1
        obtain ⟨x5, e5, _, w5⟩ := DataW.trod_int Try.underlying28 r2
        injection e0 with e0
        injection e1 with e1
        injection e2 with e2
        injection e3 with e3
        injection e4 with e4
        injection e5 with e5
        subst e0; subst e1; subst e2; subst e3; subst e4; subst e5
        obtain ⟨a3, l3, k3', rfl⟩ := entry_slice r3
        have hrb : ∀ x ∈ z3.1.weights Try.prog 33, x ≤ reachBytes := fun x hx => hr x (by
          rw [hd1]
          simp only [DataW.weights, Try.underlying50]
          refine List.mem_cons_of_mem _ (List.mem_append.2 (.inl (weights_all (d := D i) (List.mem_map.2 ⟨i, List.mem_range.2 hlt, rfl⟩) x ?_)))
          rw [hDi]
          simp only [DataW.weights, Try.underlying56]
          refine DataW.weights_mem_each (j := 3) (t := 45) (d := y3.1) rfl rfl x ?_
          rw [hz]
          simp only [DataW.weights, Try.underlying45]
          exact DataW.weights_mem_each (j := 3) (t := 33) rfl rfl x hx)
        obtain ⟨es, hE, hF⟩ := open_entries (d := z3.1) (ps := z3.2) ⟨n2, r3⟩ ⟨a3, l3, k3', rfl⟩ hrb
        have at_ : ∀ j, j < 7 → w.cell? (a.add (i * 7 + j)) = [Value.int .i64 x0, .int .i8 x1, .int .i64 x2, .int .u64 x3, .int .u64 x4, .int .u64 x5, .slice a3 l3 k3'][j]? := fun j hj => by
          rw [← Go.Deep.add_add]
          exact hat j hj
        exact ⟨⟨x0, x1, x2, ⟨x3, x4, x5, es⟩⟩, _, by simpa using at_ 0 (by omega), at_ 1 (by omega), at_ 2 (by omega), at_ 3 (by omega), at_ 4 (by omega), at_ 5 (by omega), at_ 6 (by omega), hE, hF, (u64_bounds w4).1, (u64_bounds w5).1, (i64_bounds w2).1, (i64_bounds w2).2, (i8_bounds w1).1, (i8_bounds w1).2⟩
    have build : ∀ k, k ≤ len → ∃ (cs : List Value) (es : List Oq), es.length = k ∧ Els (OqR w (fun j => j < w.heap.size)) 7 cs es ∧ (∀ j u, cs[j]? = some u → w.cell? (a.add j) = some u) ∧ (∀ o ∈ es, OqOk o) := by
      intro k
      induction k with
      | zero => exact fun _ => ⟨[], [], rfl, Els.nil _ _, (fun j u h => by simp at h), (fun e h => by cases h)⟩
      | succ k ih =>
        intro hk
        obtain ⟨cs, es, hlen, hE, hc, hF⟩ := ih (by omega)
        obtain ⟨e, s, q0, q1, q2, q3, q4, q5, q6, hq, hb⟩ := key k (by omega)
        refine ⟨cs ++ [.int .i64 e.what, .int .i8 e.ahead, .int .i64 e.frm, .int .u64 e.p.l, .int .u64 e.p.b, .int .u64 e.p.c, s], es ++ [e], by simp [hlen], Els.snoc hE rfl ⟨s, rfl, hq⟩, ?_, ?_⟩
        · intro j u hu
          have hcl : cs.length = k * 7 := by rw [hE.1, hlen]
          rcases Nat.lt_or_ge j cs.length with hj | hj
          · rw [List.getElem?_append_left hj] at hu
            exact hc j u hu
          · rw [List.getElem?_append_right hj] at hu
            obtain ⟨i, rfl⟩ : ∃ i, j = k * 7 + i := ⟨j - k * 7, by omega⟩
            rw [hcl, Nat.add_sub_cancel_left] at hu
            match i, hu with
            | 0, hu => simp at hu; subst hu; exact q0
            | 1, hu => simp at hu; subst hu; exact q1
            | 2, hu => simp at hu; subst hu; exact q2
            | 3, hu => simp at hu; subst hu; exact q3
            | 4, hu => simp at hu; subst hu; exact q4
            | 5, hu => simp at hu; subst hu; exact q5
            | 6, hu => simp at hu; subst hu; exact q6
            | i + 7, hu => simp at hu
        · intro x hx
          rcases List.mem_append.1 hx with hx | hx
          · exact hF x hx
          · simp at hx; subst hx; exact hb
    obtain ⟨cs, es, hlen, hE, hc, hF⟩ := build len (Nat.le_refl _)
    refine ⟨es, ⟨cs, ⟨hE.1, some a, m, by rw [hlen], by omega, hm, fun h0 => ?_⟩, hE⟩, hF⟩
    obtain ⟨e, s, q0, _⟩ := key 0 (by omega)
    have hp := plain_addr (by simpa using q0)
    have h01 := q0
    rw [hp, add_plain] at h01
    refine ⟨a.block, a.off, by rw [← hp], lt_of_cell h01, fun j u hu => ?_⟩
    have := hc j u hu
    rw [hp, add_plain] at this
    exact this

set_option maxRecDepth 100000 in
theorem plays_lifted (os : Os) (started : os.Started) (H : Type) (enc : TypeId × Value → H) :
    ReturnsInHanded {} Try.checked os 5 .any (Rows.changePlaysSpec.pre6 enc Try.prog Try.f5 Rows.changePlaysRow.domain false) (Rows.changePlaysSpec.post enc Try.prog Try.f5 false true false false) := by
  refine returnsInHanded_of_change_sized (C := Try.checked) own started (by kernel_rfl) Try.func5
    (ChangeSpec.witness6 (enc := enc) (C := Try.checked) false ⟨#[], #[.int .i64 0, .int .i64 0, .slice none 0 0], []⟩ 8 (by kernel_rfl) (by kernel_rfl) (by kernel_rfl) (by kernel_rfl)) ?_
  intro W base args ds gs before hval0 hW _ hsz0 _
  have hsz : (DataW.weightsEach Try.prog (Try.f5.params.toList ++ Rows.changePlaysSpec.plain.varTypes Try.prog) (ds ++ gs)).all (· ≤ reachBytes) = true := hsz0
  clear hsz0
  have hval : ∀ (j : Nat) t v, Try.f5.params[j]? = some t → args[j]? = some v → Value.okWide Try.prog W .any base t v := hval0
  have hW' := hW
  obtain ⟨p, q, hA0, hV, rfl, _, _⟩ := hW
  have hA : DataW.TrodAll enc Try.prog W 0 (fun _ => true) true Try.f5.params.toList args.toList ds p := hA0
  rw [Try.params5] at hA hval hsz
  have hA1 := hA
  obtain ⟨v0, v1, v2, d0, d1, d2, p0, p1, p2, rfl, rfl, rfl, h0, h1, h2⟩ := trodAll_three hA
  obtain ⟨rfl, rfl⟩ := trodVars_none hV
  obtain ⟨m0, rfl, rfl, rfl, _⟩ := open_int Try.underlying3 (hval 0 3 v0 rfl rfl) h0
  obtain ⟨m1, rfl, rfl, rfl, _⟩ := open_int Try.underlying3 (hval 1 3 v1 rfl rfl) h1
  obtain ⟨L, hP, hPK⟩ := open_ops h2 (okWide_slice Try.underlying50 (hval 2 50 v2 rfl rfl))
    (fun n hn => by simpa using List.all_eq_true.1 hsz _ (DataW.weights_mem_each (j := 2) (t := 50) rfl rfl n hn))
  clear hA0 hval0
  refine (plays_walk hP hPK).mono fun e W' ⟨he, hb⟩ => ?_
  subst he
  exact ⟨_, rfl, _, _, _, [], _, [], hW', trodAll_mk1 (shut_bool Try.underlying4 true), args_kept _ canRead hA1 hb (fun x hx => hW'.lt x (by simpa using hx)), rfl, hb.frame _, fun h => by cases h⟩

theorem plays_holds : Rows.ChangePlaysSaid :=
  OpenClaim.holds_of_wide 5 Try.f5 rfl rfl rfl rfl rfl rfl rfl ⟨rfl, rfl, rfl, rfl, rfl⟩ rfl rfl rfl rfl rfl (by kernel_rfl) Try.func5 (by kernel_rfl)
    (of_decide_eq_true (by kernel_rfl)) (by unfold Func.isWrapper; first | (rw [if_pos (by decide +kernel)]; kernel_rfl) | (rw [if_neg (by decide +kernel)]; exact ⟨rfl, rfl⟩))
    (fun os started H enc _ => plays_lifted os started H enc)
#print axioms plays_holds
end Go.Proofs.Ytgmekodfkhihiaa
