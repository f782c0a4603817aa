/-
  For every input ChangeViews returns true, and its arguments read as they did. No condition.
-/
import Derived.Test.YtgmekodfkhihiaaRows
import Derived.Test.YtgmekodfkhihiaaViews22
import Derived.Test.YtgmekodfkhihiaaOpen22
import Derived.Lib.SmallJoins
import Derived.Carry
namespace Go.Proofs.Ytgmekodfkhihiaa
open Go.RowKit Go.ChangeShapes Go.WideShapes Go.ChangeAt Go.Deep

theorem views_walk {w : World} {T : Nat → Prop} {l b c v nx : Int} {sv : Value} {es : List Ent} (hs : EntsRd w T sv es) (hf : Fits es) (hT : ∀ j, T j → j < w.heap.size) (hn64 : es.length ≤ 1152921504606846976) (hb0 : 0 ≤ b) (hc0 : 0 ≤ c) (hv0 : 0 ≤ v) (hv1 : v < 18446744073709551616) (hn0 : 0 ≤ nx) (hn1 : nx < 18446744073709551616) :
    Calls Try.prog 6 #[.int .u64 v, .int .u64 nx, .agg #[.int .u64 l, .int .u64 b, .int .u64 c, sv]] w fun x w' => x = .returned (.bool true) ∧ Below w.heap.size w w' := by
  obtain ⟨cs, hr, hE⟩ := id hs
  obtain ⟨p, d, rfl⟩ := Rd.slice hr
  cases hm : mayB l b c es with
  | false => exact views_no hs hf hT hn64 hb0 hc0 hv0 hv1 hn0 hn1 hm
  | true =>
    by_cases h1 : nx < v
    · exact views_back hs hf hT hn64 hb0 hc0 hv0 hv1 hn0 hn1 hm h1
    · by_cases h2 : v < nx
      · exact views_new hs hf hT hn64 hb0 hc0 hv0 hv1 hn0 hn1 hm h2
      · obtain rfl : nx = v := by omega
        exact views_same hs hf hT hn64 hb0 hc0 hv0 hv1 hm

theorem u64_bounds {n : Int} (h : (Lit.int .u64 n).wf = true) : 0 ≤ n ∧ n < 18446744073709551616 := by
  simp only [Lit.wf, IntKind.min, IntKind.max, IntKind.signed, IntKind.bits, Bool.and_eq_true, decide_eq_true_eq] at h
  simp at h
  omega

theorem canRead : ∀ t ∈ [28, 28, 45], CanRead t := by
  intro t ht
  simp only [List.mem_cons, List.not_mem_nil, or_false] at ht
  rcases ht with rfl | rfl | rfl <;> exact ⟨by kernel_rfl, of_decide_eq_true (by kernel_rfl)⟩

theorem entry_slice {H : Type} {enc : TypeId × Value → H} {W : World} {n : Nat} {v : Value} {y : DataW H × List MemPlace} (h : DataW.trod enc Try.prog W 0 (fun _ => true) true n 33 [v] = some y) : ∃ a l c, v = .slice a l c := by
  rcases open_slice_fields Try.underlying33 Try.underlying32 (by kernel_rfl) (by kernel_rfl) h with ⟨hcs, _⟩ | ⟨a, l, c, _, _, _, hcs, _⟩
  · injection hcs with hv; exact ⟨_, _, _, hv⟩
  · injection hcs with hv; exact ⟨_, _, _, hv⟩

theorem entry_bytes : Try.prog.bytesOf 32 = 48 := by kernel_rfl
theorem entries_len {H : Type} {enc : TypeId × Value → H} {W : World} {a : Option Addr} {l k : Nat} {d : DataW H} {ps : List MemPlace} (h : DataW.Trod enc Try.prog W 0 (fun _ => true) true 33 (.slice a l k) d ps) (hr : ∀ n ∈ d.weights Try.prog 33, n ≤ reachBytes) : l ≤ 1152921504606846976 := by
  obtain ⟨fuel, hf⟩ := h
  rcases open_slice_fields Try.underlying33 Try.underlying32 (by kernel_rfl) (by kernel_rfl) hf with ⟨hcs, hd⟩ | ⟨a, len, cap, m, D, Pl, hcs, _, hl, hm, hmm, hd, _⟩
  · simp only [Value.cells] at hcs
    injection hcs with hv
    injection hv with _ h2 _
    omega
  · simp only [Value.cells] at hcs
    injection hcs with hv
    injection hv with _ h2 _
    subst h2
    injection hd with hd1 _
    simp only [if_true] at hmm
    subst hmm
    have hw := hr ((l + (m - l)) * 48) (by
      rw [hd1]
      simp only [DataW.weights, Try.underlying33, List.length_map, List.length_range, entry_bytes]
      exact List.mem_cons_self)
    unfold reachBytes at hw
    omega
set_option maxRecDepth 100000 in
theorem views_lifted (os : Os) (started : os.Started) (H : Type) (enc : TypeId × Value → H) :
    ReturnsInHanded {} Try.checked os 6 .any (Rows.changeViewsSpec.pre6 enc Try.prog Try.f6 Rows.changeViewsRow.domain false) (Rows.changeViewsSpec.post enc Try.prog Try.f6 false true false false) := by
  refine returnsInHanded_of_change_sized (C := Try.checked) own started (by kernel_rfl) Try.func6
    (ChangeSpec.witness6 (enc := enc) (C := Try.checked) false ⟨#[], #[.int .u64 0, .int .u64 0, .agg #[.int .u64 0, .int .u64 0, .int .u64 0, .slice none 0 0]], []⟩ 8 (by kernel_rfl) (by kernel_rfl) (by kernel_rfl) (by kernel_rfl)) ?_
  intro W base args ds gs before hval0 hW _ hsz0 _
  have hsz : (DataW.weightsEach Try.prog (Try.f6.params.toList ++ Rows.changeViewsSpec.plain.varTypes Try.prog) (ds ++ gs)).all (· ≤ reachBytes) = true := hsz0
  clear hsz0
  have hval : ∀ (j : Nat) t v, Try.f6.params[j]? = some t → args[j]? = some v → Value.okWide Try.prog W .any base t v := hval0
  have hW' := hW
  obtain ⟨p, q, hA0, hV, rfl, _, _⟩ := hW
  have hA : DataW.TrodAll enc Try.prog W 0 (fun _ => true) true Try.f6.params.toList args.toList ds p := hA0
  rw [Try.params6] at hA hval hsz
  have hA1 := hA
  obtain ⟨v0, v1, v2, d0, d1, d2, p0, p1, p2, rfl, rfl, rfl, h0, h1, h2⟩ := trodAll_three hA
  obtain ⟨rfl, rfl⟩ := trodVars_none hV
  obtain ⟨m0, rfl, rfl, rfl, wm⟩ := open_int Try.underlying28 (hval 0 28 v0 rfl rfl) h0
  obtain ⟨m1, rfl, rfl, rfl, wn⟩ := open_int Try.underlying28 (hval 1 28 v1 rfl rfl) h1
  obtain ⟨c0, c1, c2, c3, y0, y1, y2, y3, n, rfl, rfl, rfl, t0, t1, t2, t3⟩ := Joins.open_agg4 Try.underlying45 (by kernel_rfl) (by kernel_rfl) (hval 2 45 _ rfl rfl) h2
  obtain ⟨x0, e0, _, w0⟩ := DataW.trod_int Try.underlying28 t0
  obtain ⟨x1, e1, _, w1⟩ := DataW.trod_int Try.underlying28 t1
  obtain ⟨x2, e2, _, w2⟩ := DataW.trod_int Try.underlying28 t2
  injection e0 with e0
  injection e1 with e1
  injection e2 with e2
  subst e0; subst e1; subst e2
  obtain ⟨a3, l3, k3, rfl⟩ := entry_slice t3
  have hrb : ∀ n ∈ y3.1.weights Try.prog 33, n ≤ reachBytes := fun n hn => by
    have := List.all_eq_true.1 hsz n (DataW.weights_mem_each (j := 2) (t := 45) rfl rfl n (by
      simp only [DataW.weights, Try.underlying45]
      exact DataW.weights_mem_each (j := 3) rfl rfl n hn))
    simpa using this
  have hl3 := entries_len (d := y3.1) (ps := y3.2) ⟨n, t3⟩ hrb
  obtain ⟨es, hE, hF⟩ := open_entries (d := y3.1) (ps := y3.2) ⟨n, t3⟩ ⟨a3, l3, k3, rfl⟩ hrb
  have hlen : es.length ≤ 1152921504606846976 := by
    obtain ⟨cs, hr, -⟩ := id hE
    obtain ⟨p, d, he⟩ := Rd.slice hr
    injection he with _ he _
    rw [← he]
    exact hl3
  clear hA0 hval0
  refine (views_walk hE hF (fun j h => h) hlen (u64_bounds w1).1 (u64_bounds w2).1 (u64_bounds wm).1 (u64_bounds wm).2 (u64_bounds wn).1 (u64_bounds wn).2).mono fun e W' ⟨he, hb⟩ => ?_
  subst he
  exact ⟨_, rfl, _, _, _, [], _, [], hW', trodAll_mk1 (shut_bool Try.underlying4 true), args_kept _ canRead hA1 hb (fun x hx => hW'.lt x (by simpa using hx)), rfl, hb.frame _, fun h => by cases h⟩

theorem views_holds : Rows.ChangeViewsSaid :=
  OpenClaim.holds_of_wide 6 Try.f6 rfl rfl rfl rfl rfl rfl rfl ⟨rfl, rfl, rfl, rfl, rfl⟩ rfl rfl rfl rfl rfl (by kernel_rfl) Try.func6 (by kernel_rfl)
    (of_decide_eq_true (by kernel_rfl)) (by unfold Func.isWrapper; first | (rw [if_pos (by decide +kernel)]; kernel_rfl) | (rw [if_neg (by decide +kernel)]; exact ⟨rfl, rfl⟩))
    (fun os started H enc _ => views_lifted os started H enc)
#print axioms views_holds
end Go.Proofs.Ytgmekodfkhihiaa
