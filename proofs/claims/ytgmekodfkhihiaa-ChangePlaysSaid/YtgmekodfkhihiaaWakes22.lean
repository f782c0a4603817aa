/-
  The chapter's rows of changes: wakes is true. No condition. (Printed by wip/gen_wakes22.py.)
-/
import Derived.Test.YtgmekodfkhihiaaChMore
namespace Go.Proofs.Ytgmekodfkhihiaa
open Go.RowKit Go.Maps
set_option linter.unusedSimpArgs false
set_option linter.unusedVariables false

def b0 : List Bool := [true, false, false, false, false, false, false]
def b04 : List Bool := [true, false, false, false, true, false, false]
def b024 : List Bool := [true, false, true, false, true, false, false]
theorem newT_no (v vn : Int) : newT v vn no7 = no7 := by unfold newT; split <;> rfl
theorem j_a : justB no7 b0 (5 / 2) = false := by decide +kernel
theorem j_b : justB b0 b0 (5 / 2) = false := by decide +kernel
theorem j_c : justB b0 b04 (5 / 2) = true := by decide +kernel
theorem j_d : justB b04 b024 (5 / 2) = false := by decide +kernel
theorem ok51 : NumOk 5 1 := ⟨by omega, by omega, by omega⟩
structure Three (cb vb g a : Nat) : Prop where
  h1 : a ≤ cb
  h2 : a ≤ vb
  h3 : a ≤ g

set_option maxHeartbeats 3200000 in
set_option maxRecDepth 100000 in
theorem wakes_true {w : World} : Calls Try.prog 12 #[] w fun x w' => x = .returned (.bool true) ∧ Below w.heap.size w w' := by
  go_enter Try.func12, Try.ntmps12
  go_wp2_with fail
  refine (ch_New ok51).mono ?_
  rintro x w1 ⟨cb, vb, g, rfl, hC, h1, h2, h3, hb⟩
  have HC1 := Lib.hid hC
  have HB1 := Lib.hid hb
  have H3 := Lib.hid (Three.mk h1 h2 h3)
  clear hC hb h1 h2 h3
  go_wp2_with fail
  refine (ch_Start (vn := 6) HC1.out (by omega) (by omega) (by omega)).mono ?_
  rintro x w2 ⟨rfl, hC, hE⟩
  rw [newT_no] at hC
  have HC2 := Lib.hid hC
  have HB2 := Lib.hid (Ext.from HB1.out hE (fun j hj => hj.elim (fun e => e ▸ H3.out.h1) (fun e => e ▸ H3.out.h3)))
  clear hC hE HC1 HB1
  go_wp2_with fail
  refine (ch_Told (k := 0) (t' := b0) HC2.out ok51 (by decide) (by decide) rfl).mono ?_
  rintro x w3 ⟨rfl, hC, hE⟩
  rw [j_a]
  have HC3 := Lib.hid hC
  have HB3 := Lib.hid (Ext.from HB2.out hE (fun j hj => hj ▸ H3.out.h3))
  clear hC hE HC2 HB2
  go_wp2_with fail
  refine (ch_Told (k := 0) (t' := b0) HC3.out ok51 (by decide) (by decide) rfl).mono ?_
  rintro x w4 ⟨rfl, hC, hE⟩
  rw [j_b]
  have HC4 := Lib.hid hC
  have HB4 := Lib.hid (Ext.from HB3.out hE (fun j hj => hj ▸ H3.out.h3))
  clear hC hE HC3 HB3
  go_wp2_with fail
  refine (ch_Told (k := 4) (t' := b04) HC4.out ok51 (by decide) (by decide) rfl).mono ?_
  rintro x w5 ⟨rfl, hC, hE⟩
  rw [j_c]
  have HC5 := Lib.hid hC
  have HB5 := Lib.hid (Ext.from HB4.out hE (fun j hj => hj ▸ H3.out.h3))
  clear hC hE HC4 HB4
  go_wp2_with fail
  refine (ch_Told (k := 2) (t' := b024) HC5.out ok51 (by decide) (by decide) rfl).mono ?_
  rintro x w6 ⟨rfl, hC, hE⟩
  rw [j_d]
  have HC6 := Lib.hid hC
  have HB6 := Lib.hid (Ext.from HB5.out hE (fun j hj => hj ▸ H3.out.h3))
  clear hC hE HC5 HB5
  go_wp2_with fail
  refine (ch_Told_state HC6.out ok51 (by decide) (by decide) (by decide) (by decide)).mono ?_
  rintro x _ ⟨rfl, rfl⟩
  go_wp2_with fail
  refine (ch_Told_arg HC6.out (.inr (.inr rfl))).mono ?_
  rintro x _ ⟨rfl, rfl⟩
  go_wp2_with fail
  refine (ch_Primary (v := 6) (n := 5) (by omega) (by omega) (by omega) (by omega)).mono ?_
  rintro x _ ⟨rfl, rfl⟩
  go_wp2_with fail
  go_ret
  exact ⟨rfl, HB6.out⟩
end Go.Proofs.Ytgmekodfkhihiaa
