/-
  For every input PackJoins returns true, and its arguments read as they did. No condition.
-/
import Derived.Test.YteijpcedggkdpaaRows
import Derived.Test.YteijpcedggkdpaaPjL
import Derived.Test.YteijpcedggkdpaaPjS
import Derived.Test.YteijpcedggkdpaaOpen
import Derived.Lib.SmallJoins
import Derived.Carry
namespace Go.Proofs.Yteijpcedggkdpaa
open Go.RowKit Go.ChangeShapes Go.WideShapes Go.ChangeAt Go.Deep

theorem joins_walk {w : World} {S : Nat → Prop} {pl pb pc m : Int} {pv ov : Value} {ps0 es0 : List Ent} (hp : EntsRd w S pv ps0) (ho : EntsRd w S ov es0) (hpf : Fits ps0) (hef : Fits es0) (hm : 0 ≤ m) (hb0 : 0 ≤ pb) :
    Calls Try.prog 3 #[.agg #[.int .u64 pl, .int .u64 pb, .int .u64 pc, pv], .int .u64 m, ov] w fun x w' => x = .returned (.bool true) ∧ Below w.heap.size w w' := by
  by_cases h1 : m ≤ 1099511627776
  · cases hl : longB (es0.take 64) with
    | true =>
      cases hy : mayB pl pb pc (ps0.take 64) with
      | false => exact pj_long_may hp ho hpf hef hm hb0 h1 hl hy
      | true =>
        by_cases hx : m ≤ pb + (ps0.take 64).length
        · exact pj_long_ok hp ho hpf hef hm hb0 h1 hl hy hx
        · exact pj_long_low hp ho hpf hef hm hb0 h1 hl hy (by omega)
    | false =>
      cases hy : mayB pl pb pc (ps0.take 64) with
      | false => exact pj_short_may hp ho hpf hef hm hb0 h1 hl hy
      | true =>
        by_cases hx : m ≤ pb + (ps0.take 64).length
        · exact pj_short_ok hp ho hpf hef hm hb0 h1 hl hy hx
        · exact pj_short_low hp ho hpf hef hm hb0 h1 hl hy (by omega)
  · exact pj_arg hp ho hpf hef hm hb0 (by omega)

theorem u64_bounds {n : Int} (h : (Lit.int .u64 n).wf = true) : 0 ≤ n ∧ n < 18446744073709551616 := by
  simp only [Lit.wf, IntKind.min, IntKind.max, IntKind.signed, IntKind.bits, Bool.and_eq_true, decide_eq_true_eq] at h
  simp at h
  omega

theorem canRead : ∀ t ∈ [25, 22, 23], CanRead t := by
  intro t ht
  simp only [List.mem_cons, List.not_mem_nil, or_false] at ht
  rcases ht with rfl | rfl | rfl <;> exact ⟨by kernel_rfl, of_decide_eq_true (by kernel_rfl)⟩

theorem entry_slice {H : Type} {enc : TypeId × Value → H} {W : World} {n : Nat} {v : Value} {y : DataW H × List MemPlace} (h : DataW.trod enc Try.prog W 0 (fun _ => true) true n 23 [v] = some y) : ∃ a l c, v = .slice a l c := by
  rcases open_slice_fields Try.underlying23 Try.underlying44 (by kernel_rfl) (by kernel_rfl) h with ⟨hcs, _⟩ | ⟨a, l, c, _, _, _, hcs, _⟩
  · injection hcs with hv; exact ⟨_, _, _, hv⟩
  · injection hcs with hv; exact ⟨_, _, _, hv⟩

set_option maxRecDepth 100000 in
theorem joins_lifted (os : Os) (started : os.Started) (H : Type) (enc : TypeId × Value → H) :
    ReturnsInHanded {} Try.checked os 3 .any (Rows.packJoinsSpec.pre6 enc Try.prog Try.f3 Rows.packJoinsRow.domain false) (Rows.packJoinsSpec.post enc Try.prog Try.f3 false true false false) := by
  refine returnsInHanded_of_change_sized (C := Try.checked) own started (by kernel_rfl) Try.func3
    (ChangeSpec.witness6 (enc := enc) (C := Try.checked) false ⟨#[], #[.agg #[.int .u64 0, .int .u64 0, .int .u64 0, .slice none 0 0], .int .u64 0, .slice none 0 0], []⟩ 8 (by kernel_rfl) (by kernel_rfl) (by kernel_rfl) (by kernel_rfl)) ?_
  intro W base args ds gs before hval0 hW _ hsz0 _
  have hsz : (DataW.weightsEach Try.prog (Try.f3.params.toList ++ Rows.packJoinsSpec.plain.varTypes Try.prog) (ds ++ gs)).all (· ≤ reachBytes) = true := hsz0
  clear hsz0
  have hval : ∀ (j : Nat) t v, Try.f3.params[j]? = some t → args[j]? = some v → Value.okWide Try.prog W .any base t v := hval0
  have hW' := hW
  obtain ⟨p, q, hA0, hV, rfl, _, _⟩ := hW
  have hA : DataW.TrodAll enc Try.prog W 0 (fun _ => true) true Try.f3.params.toList args.toList ds p := hA0
  rw [Try.params3] at hA hval hsz
  have hA1 := hA
  obtain ⟨v0, v1, v2, d0, d1, d2, p0, p1, p2, rfl, rfl, rfl, h0, h1, h2⟩ := trodAll_three hA
  obtain ⟨rfl, rfl⟩ := trodVars_none hV
  obtain ⟨c0, c1, c2, c3, y0, y1, y2, y3, n, rfl, rfl, rfl, t0, t1, t2, t3⟩ := Joins.open_agg4 Try.underlying25 (by kernel_rfl) (by kernel_rfl) (hval 0 25 _ rfl rfl) h0
  obtain ⟨x0, e0, _, w0⟩ := DataW.trod_int Try.underlying22 t0
  obtain ⟨x1, e1, _, w1⟩ := DataW.trod_int Try.underlying22 t1
  obtain ⟨x2, e2, _, w2⟩ := DataW.trod_int Try.underlying22 t2
  injection e0 with e0
  injection e1 with e1
  injection e2 with e2
  subst e0; subst e1; subst e2
  obtain ⟨m0, rfl, rfl, rfl, wm⟩ := open_int Try.underlying22 (hval 1 22 v1 rfl rfl) h1
  obtain ⟨a3, l3, k3, rfl⟩ := entry_slice t3
  obtain ⟨ps, hP, hPF⟩ := open_entries (d := y3.1) (ps := y3.2) ⟨n, t3⟩ ⟨a3, l3, k3, rfl⟩
    (fun n hn => by
      have := List.all_eq_true.1 hsz n (DataW.weights_mem_each (j := 0) (t := 25) rfl rfl n (by
        simp only [DataW.weights, Try.underlying25]
        exact DataW.weights_mem_each (j := 3) rfl rfl n hn))
      simpa using this)
  obtain ⟨es, hE, hF⟩ := open_entries h2 (okWide_slice Try.underlying23 (hval 2 23 v2 rfl rfl))
    (fun n hn => by simpa using List.all_eq_true.1 hsz _ (DataW.weights_mem_each (j := 2) (t := 23) rfl rfl n hn))
  clear hA0 hval0
  refine (joins_walk hP hE hPF hF (u64_bounds wm).1 (u64_bounds w1).1).mono fun e W' ⟨he, hb⟩ => ?_
  subst he
  exact ⟨_, rfl, _, _, _, [], _, [], hW', trodAll_mk1 (shut_bool Try.underlying4 true), args_kept _ canRead hA1 hb (fun x hx => hW'.lt x (by simpa using hx)), rfl, hb.frame _, fun h => by cases h⟩

theorem joins_holds : Rows.PackJoinsSaid :=
  OpenClaim.holds_of_wide 3 Try.f3 rfl rfl rfl rfl rfl rfl rfl ⟨rfl, rfl, rfl, rfl, rfl⟩ rfl rfl rfl rfl rfl (by kernel_rfl) Try.func3 (by kernel_rfl)
    (of_decide_eq_true (by kernel_rfl)) (by unfold Func.isWrapper; first | (rw [if_pos (by decide +kernel)]; kernel_rfl) | (rw [if_neg (by decide +kernel)]; exact ⟨rfl, rfl⟩))
    (fun os started H enc _ => joins_lifted os started H enc)
#print axioms joins_holds
end Go.Proofs.Yteijpcedggkdpaa
