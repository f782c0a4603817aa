/-
  For every input WireBack returns true, and its arguments read as they did. No condition.
-/
import Derived.Test.YtgmlgdfgooacbaaRows
import Derived.Test.YtgmlgdfgooacbaaWback
import Derived.Test.YtgmlgdfgooacbaaOpenT
import Derived.Carry
namespace Go.Proofs.Ytgmlgdfgooacbaa
open Go.RowKit Go.ChangeShapes Go.WideShapes Go.ChangeAt Go.Deep

theorem canRead_back : ∀ t ∈ ([22, 62, 23] : List TypeId), CanRead t := by
  intro t ht
  simp only [List.mem_cons, List.not_mem_nil, or_false] at ht
  rcases ht with rfl | rfl | rfl <;> exact ⟨by kernel_rfl, of_decide_eq_true (by kernel_rfl)⟩

set_option maxRecDepth 100000 in
theorem back_lifted (os : Os) (started : os.Started) (H : Type) (enc : TypeId × Value → H) :
    ReturnsInHanded {} Try.checked os 7 .any (Rows.wireBackSpec.pre6 enc Try.prog Try.f7 Rows.wireBackRow.domain false) (Rows.wireBackSpec.post enc Try.prog Try.f7 false true false false) := by
  refine returnsInHanded_of_change_sized (C := Try.checked) own started (by kernel_rfl) Try.func7
    (ChangeSpec.witness6 (enc := enc) (C := Try.checked) false ⟨#[], #[.slice none 0 0, .int .u16 0, .slice none 0 0], []⟩ 8 (by kernel_rfl) (by kernel_rfl) (by kernel_rfl) (by kernel_rfl)) ?_
  intro W base args ds gs before hval0 hW _ hsz0 _
  have hsz : (DataW.weightsEach Try.prog (Try.f7.params.toList ++ Rows.wireBackSpec.plain.varTypes Try.prog) (ds ++ gs)).all (· ≤ reachBytes) = true := hsz0
  clear hsz0
  have hval : ∀ (j : Nat) t v, Try.f7.params[j]? = some t → args[j]? = some v → Value.okWide Try.prog W .any base t v := hval0
  have hW' := hW
  obtain ⟨p, q, hA0, hV, rfl, _, _⟩ := hW
  have hA : DataW.TrodAll enc Try.prog W 0 (fun _ => true) true Try.f7.params.toList args.toList ds p := hA0
  rw [Try.params7] at hA hval hsz
  have hA1 := hA
  obtain ⟨v0, v1, v2, d0, d1, d2, p0, p1, p2, rfl, rfl, rfl, h0, h1, h2⟩ := trodAll_three hA
  obtain ⟨rfl, rfl⟩ := trodVars_none hV
  obtain ⟨ts, hT, hO⟩ := open_things h0 (okWide_slice Try.underlying22 (hval 0 22 v0 rfl rfl)) (fun n hn => by simpa using List.all_eq_true.1 hsz _ (DataW.weights_mem_each (j := 0) (t := 22) rfl rfl n hn))
  obtain ⟨x1, rfl, rfl, rfl, w1⟩ := open_int Try.underlying62 (hval 1 62 v1 rfl rfl) h1
  obtain ⟨a2, l2, k2, hv2⟩ := okWide_slice Try.underlying23 (hval 2 23 v2 rfl rfl)
  subst hv2
  obtain ⟨fu2, tr2⟩ := h2
  obtain ⟨be, Hbe, Nbe, Lbe⟩ := open_bytes (v := .slice a2 l2 k2) tr2
  have hlen : be.length ≤ 140737488351232 := Lbe reachBytes (fun n hn => by simpa using List.all_eq_true.1 hsz _ (DataW.weights_mem_each (j := 2) (t := 23) rfl rfl n hn))
  have hx := u16_bounds w1
  obtain ⟨cut, rfl⟩ := Int.eq_ofNat_of_zero_le hx.1
  clear hA0 hval0
  refine (back_walk (cut := cut) hT hO (fun _ h => h) Hbe Nbe (fun _ h => h) hlen (by omega)).mono fun e W' ⟨he, hb⟩ => ?_
  subst he
  exact ⟨_, rfl, _, _, _, [], _, [], hW', trodAll_mk1 (shut_bool Try.underlying4 true), args_kept _ canRead_back hA1 hb (fun x hx => hW'.lt x (by simpa using hx)), rfl, hb.frame _, fun h => by cases h⟩

theorem back_holds : Rows.WireBackSaid :=
  OpenClaim.holds_of_wide 7 Try.f7 rfl rfl rfl rfl rfl rfl rfl ⟨rfl, rfl, rfl, rfl, rfl⟩ rfl rfl rfl rfl rfl (by kernel_rfl) Try.func7 (by kernel_rfl)
    (of_decide_eq_true (by kernel_rfl)) (by unfold Func.isWrapper; first | (rw [if_pos (by decide +kernel)]; kernel_rfl) | (rw [if_neg (by decide +kernel)]; exact ⟨rfl, rfl⟩))
    (fun os started H enc _ => back_lifted os started H enc)
#print axioms back_holds
end Go.Proofs.Ytgmlgdfgooacbaa
