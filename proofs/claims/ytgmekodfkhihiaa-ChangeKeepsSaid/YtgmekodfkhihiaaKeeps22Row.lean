/-
  For every input ChangeKeeps returns true, and its arguments read as they did. No condition.
-/
import Derived.Test.YtgmekodfkhihiaaRows
import Derived.Test.YtgmekodfkhihiaaKeepsW22
import Derived.Test.YtgmekodfkhihiaaOpen22
import Derived.Lib.SmallJoins
import Derived.Carry
import Derived.OpenShut
namespace Go.Proofs.Ytgmekodfkhihiaa
open Go.RowKit Go.ChangeShapes Go.WideShapes Go.ChangeAt Go.Deep

theorem canRead : ∀ t ∈ [5, 22, 22, 5, 5, 4], CanRead t := by
  intro t ht
  simp only [List.mem_cons, List.not_mem_nil, or_false] at ht
  rcases ht with rfl | rfl | rfl | rfl | rfl | rfl <;> exact ⟨by kernel_rfl, of_decide_eq_true (by kernel_rfl)⟩
theorem u8_bounds {n : Int} (h : (Lit.int .u8 n).wf = true) : 0 ≤ n ∧ n < 256 := by
  simp [Lit.wf, IntKind.min, IntKind.max, IntKind.signed, IntKind.bits] at h
  omega
theorem trodAll_six {H : Type} {enc : TypeId × Value → H} {P : Program} {w : World} {base : Nat} {spare : Nat → Bool} {held : Bool} {a b c d e f : TypeId} {vs : Array Value} {ds : List (DataW H)} {ps : List MemPlace} (h : DataW.TrodAll enc P w base spare held [a, b, c, d, e, f] vs.toList ds ps) :
    ∃ v0 v1 v2 v3 v4 v5 d0 d1 d2 d3 d4 d5 p0 p1 p2 p3 p4 p5, vs = #[v0, v1, v2, v3, v4, v5] ∧ ds = [d0, d1, d2, d3, d4, d5] ∧ ps = p0 ++ (p1 ++ (p2 ++ (p3 ++ (p4 ++ p5)))) ∧
      DataW.Trod enc P w base spare held a v0 d0 p0 ∧ DataW.Trod enc P w base spare held b v1 d1 p1 ∧ DataW.Trod enc P w base spare held c v2 d2 p2 ∧ DataW.Trod enc P w base spare held d v3 d3 p3 ∧ DataW.Trod enc P w base spare held e v4 d4 p4 ∧ DataW.Trod enc P w base spare held f v5 d5 p5 := by
  obtain ⟨vs⟩ := vs
  simp only at h
  obtain ⟨v0, vs0, d0, ds0, p0, ps0, rfl, rfl, rfl, h0, h⟩ := trodAll_cons h
  obtain ⟨v1, vs1, d1, ds1, p1, ps1, rfl, rfl, rfl, h1, h⟩ := trodAll_cons h
  obtain ⟨v2, vs2, d2, ds2, p2, ps2, rfl, rfl, rfl, h2, h⟩ := trodAll_cons h
  obtain ⟨v3, vs3, d3, ds3, p3, ps3, rfl, rfl, rfl, h3, h⟩ := trodAll_cons h
  obtain ⟨v4, vs4, d4, ds4, p4, ps4, rfl, rfl, rfl, h4, h⟩ := trodAll_cons h
  obtain ⟨v5, vs5, d5, ds5, p5, ps5, rfl, rfl, rfl, h5, h⟩ := trodAll_cons h
  obtain ⟨rfl, rfl, rfl⟩ := trodAll_nil h
  exact ⟨v0, v1, v2, v3, v4, v5, d0, d1, d2, d3, d4, d5, p0, p1, p2, p3, p4, p5, rfl, rfl, by simp, h0, h1, h2, h3, h4, h5⟩
def numOf : Value → Int
  | .int _ x => x
  | _ => 0
set_option maxRecDepth 100000 in
theorem open_u8s {H : Type} {enc : TypeId × Value → H} {w : World} {r : Reach} {b0 : Nat} {v : Value} {d : DataW H} {p : List MemPlace} (hv : Value.okWide Try.prog w r b0 22 v) (h : DataW.Trod enc Try.prog w 0 (fun _ => true) true 22 v d p) :
    ∃ ls, v = .agg (u8s ls) ∧ B7 ls := by
  obtain ⟨cs, rfl, hsz, -⟩ : ∃ cs, v = .agg cs ∧ cs.size = Try.prog.cellsOf 22 ∧ Row.okWide Try.prog w r b0 22 cs := by
    simpa [Value.okWide, Try.underlying22] using hv
  rw [show Try.prog.cellsOf 22 = 7 from by kernel_rfl] at hsz
  obtain ⟨fuel, hf⟩ := h
  obtain ⟨xs, m, -, -, -, hl, hel⟩ := DataW.trod_array Try.underlying22 hf
  have hc1 : Try.prog.cellsOf 5 = 1 := by kernel_rfl
  have key : ∀ i (hi : i < cs.size), ∃ x, cs[i] = .int .u8 x ∧ 0 ≤ x ∧ x < 256 := by
    intro i hi
    have := hel i (by omega)
    rw [hc1, List.getElem?_eq_getElem (show i < xs.length by omega)] at this
    obtain ⟨x, e, -, wf⟩ := DataW.trod_int Try.underlying5 this
    simp only [Value.cells, Nat.mul_one] at e
    rw [List.drop_eq_getElem_cons (show i < cs.toList.length by simpa using hi)] at e
    simp at e
    exact ⟨x, e, u8_bounds wf⟩
  refine ⟨cs.toList.map numOf, ?_, by simp [hsz], fun x hx => ?_⟩
  · congr 1
    unfold u8s
    rw [List.map_map]
    refine Array.ext (by simp) fun i h1 h2 => ?_
    obtain ⟨x, e, -⟩ := key i h1
    simp [e, numOf]
  · obtain ⟨u, hu, rfl⟩ := List.mem_map.1 hx
    obtain ⟨i, hi, rfl⟩ := List.getElem_of_mem hu
    obtain ⟨x, e, hb⟩ := key i (by simpa using hi)
    simp only [Array.getElem_toList]
    rw [e]
    exact hb

set_option maxRecDepth 100000 in
theorem keeps_lifted (os : Os) (started : os.Started) (H : Type) (enc : TypeId × Value → H) :
    ReturnsInHanded {} Try.checked os 3 .any (Rows.changeKeepsSpec.pre6 enc Try.prog Try.f3 Rows.changeKeepsRow.domain false) (Rows.changeKeepsSpec.post enc Try.prog Try.f3 false true false false) := by
  refine returnsInHanded_of_change_sized (C := Try.checked) own started (by kernel_rfl) Try.func3
    (ChangeSpec.witness6 (enc := enc) (C := Try.checked) false ⟨#[], #[.int .u8 0, .agg #[.int .u8 0, .int .u8 0, .int .u8 0, .int .u8 0, .int .u8 0, .int .u8 0, .int .u8 0], .agg #[.int .u8 0, .int .u8 0, .int .u8 0, .int .u8 0, .int .u8 0, .int .u8 0, .int .u8 0], .int .u8 0, .int .u8 0, .bool false], []⟩ 8 (by kernel_rfl) (by kernel_rfl) (by kernel_rfl) (by kernel_rfl)) ?_
  intro W base args ds gs before hval0 hW _ _ _
  have hval : ∀ (j : Nat) t v, Try.f3.params[j]? = some t → args[j]? = some v → Value.okWide Try.prog W .any base t v := hval0
  have hW' := hW
  obtain ⟨p, q, hA0, hV, rfl, _, _⟩ := hW
  have hA : DataW.TrodAll enc Try.prog W 0 (fun _ => true) true Try.f3.params.toList args.toList ds p := hA0
  rw [Try.params3] at hA hval
  have hA1 := hA
  obtain ⟨v0, v1, v2, v3, v4, v5, d0, d1, d2, d3, d4, d5, p0, p1, p2, p3, p4, p5, rfl, rfl, rfl, h0, h1, h2, h3, h4, h5⟩ := trodAll_six hA
  obtain ⟨rfl, rfl⟩ := trodVars_none hV
  obtain ⟨m0, rfl, rfl, rfl, w0⟩ := open_int Try.underlying5 (hval 0 5 v0 rfl rfl) h0
  obtain ⟨ls, rfl, hls⟩ := open_u8s (hval 1 22 v1 rfl rfl) h1
  obtain ⟨ms, rfl, hms⟩ := open_u8s (hval 2 22 v2 rfl rfl) h2
  obtain ⟨m3, rfl, rfl, rfl, w3⟩ := open_int Try.underlying5 (hval 3 5 v3 rfl rfl) h3
  obtain ⟨m4, rfl, rfl, rfl, w4⟩ := open_int Try.underlying5 (hval 4 5 v4 rfl rfl) h4
  obtain ⟨b5, rfl, rfl, rfl⟩ := open_bool Try.underlying4 (hval 5 4 v5 rfl rfl) h5
  clear hA0 hval0
  have hN : 1 + 2 * (m0 % 4) = ((1 + 2 * (m0 % 4)).toNat : Int) := by omega
  refine (keeps_walk ⟨(u8_bounds w0).1, (u8_bounds w0).2, hls, hms, (u8_bounds w3).1, (u8_bounds w3).2, (u8_bounds w4).1, (u8_bounds w4).2, hN⟩).mono fun e W' ⟨he, hb⟩ => ?_
  subst he
  exact ⟨_, rfl, _, _, _, [], _, [], hW', trodAll_mk1 (shut_bool Try.underlying4 true), args_kept _ canRead hA1 hb (fun x hx => hW'.lt x (by simpa using hx)), rfl, hb.frame _, fun h => by cases h⟩

theorem keeps_holds : Rows.ChangeKeepsSaid :=
  OpenClaim.holds_of_wide 3 Try.f3 rfl rfl rfl rfl rfl rfl rfl ⟨rfl, rfl, rfl, rfl, rfl⟩ rfl rfl rfl rfl rfl (by kernel_rfl) Try.func3 (by kernel_rfl)
    (of_decide_eq_true (by kernel_rfl)) (by unfold Func.isWrapper; first | (rw [if_pos (by decide +kernel)]; kernel_rfl) | (rw [if_neg (by decide +kernel)]; exact ⟨rfl, rfl⟩))
    (fun os started H enc _ => keeps_lifted os started H enc)
#print axioms keeps_holds
end Go.Proofs.Ytgmekodfkhihiaa
