/-
  A region that draws its order: where one of two operations comes up next. Plain theorem; no condition on the program.
-/
import Derived.Test.YtgmekodfkhihiaaOrd
namespace Go.Proofs.Ytgmekodfkhihiaa
open Go.RowKit

section
variable {P : Program} {md : Region.Mode} {ops : Array Oper} {Q : Exit → Act → World → Prop} {S T : World → Prop} {D : List Nat}
theorem two_D (i i2 : Nat) {oi oi2 : Oper} {fuel : Nat} {listed : Array Bool} {a : Act} {w : World} (hi : ops[i]? = some oi) (hi2 : ops[i2]? = some oi2) (hr : Region.ready md ops listed = [i, i2])
    (h : ∀ K : Act → World → Prop, Kept (∀ a w, S w → (noLate D (listed.setIfInBounds i true) = true → T w) → wpAnyD P md ops Q S T D fuel (listed.setIfInBounds i true) a w → K a w) → if Region.wanted oi (yielded ops a.tmps) = true then Oper.wp P oi a w K Q else K (a.put oi.dst undef) w)
    (h2 : ∀ K : Act → World → Prop, Kept (∀ a w, S w → (noLate D (listed.setIfInBounds i2 true) = true → T w) → wpAnyD P md ops Q S T D fuel (listed.setIfInBounds i2 true) a w → K a w) → if Region.wanted oi2 (yielded ops a.tmps) = true then Oper.wp P oi2 a w K Q else K (a.put oi2.dst undef) w) :
    wpAnyD P md ops Q S T D (fuel + 1) listed a w := by
  refine ⟨fun h0 => (by rw [h0] at hr; cases hr), fun j hj => ?_⟩
  rw [hr] at hj
  simp only [List.mem_cons, List.not_mem_nil, or_false] at hj
  rcases hj with rfl | rfl
  · exact wpOp_step hi fun K hK => h K fun a w hS hT hW => hK a w ⟨⟨hS, hT⟩, hW⟩
  · exact wpOp_step hi2 fun K hK => h2 K fun a w hS hT hW => hK a w ⟨⟨hS, hT⟩, hW⟩
end
end Go.Proofs.Ytgmekodfkhihiaa
