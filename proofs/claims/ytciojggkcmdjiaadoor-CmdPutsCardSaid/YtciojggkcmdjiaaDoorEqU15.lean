/-
  Two units held against each other, as the model does it.
-/
import Derived.Test.YtciojggkcmdjiaaDoorUnit15
import Derived.Laws.StructEq
namespace Go.Proofs.YtciojggkcmdjiaaDoor
open Go.RowKit
set_option linter.unusedSimpArgs false
set_option linter.unusedVariables false
set_option maxRecDepth 10000 in
theorem run_neq_unit (w : World) (a0 a1 a2 a3 a4 b0 b1 b2 b3 b4 : Int) :
    (binOp .neq 78 (.agg #[.int .i64 a0, .int .i64 a1, .int .i32 a2, .int .u32 a3, .int .u64 a4]) (.agg #[.int .i64 b0, .int .i64 b1, .int .i32 b2, .int .u32 b3, .int .u64 b4])).run Tryd.prog w = .ok (.bool (!(a0 == b0 && (a1 == b1 && (a2 == b2 && (a3 == b3 && a4 == b4)))))) w := by
  have hS : Tryd.prog.underlying 78 = some (.struct (Tryd.prog.fieldsOf 78)) := by kernel_rfl
  have hp : Tryd.prog.stoodInHeld 78 = false := by kernel_rfl
  have hp2 : Tryd.prog.stoodInHeld 44 = false := by kernel_rfl
  rw [run_neq_struct, show (10000 : Nat) = 9999 + 1 from rfl, run_equalIn_agg w 9999 78 _ _ hS hp]
  simp only [Program.fieldsOf, Tryd.underlying78]
  clear hS hp
  have u7 := Tryd.underlying44
  have u3 := Tryd.underlying3
  have ag3 := Tryd.isAgg3
  have z3 := Tryd.sizeOf3
  have u4 := Tryd.underlying76
  have a4' := Tryd.isAgg76
  have z4 := Tryd.sizeOf76
  have u5 := Tryd.underlying22
  have a5 := Tryd.isAgg22
  have z5 := Tryd.sizeOf22
  have u6 := Tryd.underlying23
  have a6 := Tryd.isAgg23
  have z6 := Tryd.sizeOf23
  have a7 := Tryd.isAgg44
  have z7 := Tryd.sizeOf44
  by_cases h0 : a0 = b0
  · by_cases h1 : a1 = b1
    · by_cases h2 : a2 = b2
      · subst h0; subst h1; subst h2
        go_simp
        by_cases h3 : a3 = b3 <;> by_cases h4 : a4 = b4 <;> simp [h3, h4]
      · subst h0; subst h1
        go_simp
    · subst h0
      go_simp
  · go_simp
theorem guard_unit (w : World) (x y : Operand) (xs ys : Array Value) : (eqGuard .neq 78 x y (.agg xs) (.agg ys)).run Tryd.prog w = .ok () w := run_eqGuard_agg w .neq 78 x y xs ys (by kernel_rfl)
end Go.Proofs.YtciojggkcmdjiaaDoor
