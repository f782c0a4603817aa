/-
  cmd.SameCmd of two that are the same: its contract.
-/
import Derived.Test.YtciojggkcmdjiaaDoorMay15
namespace Go.Proofs.YtciojggkcmdjiaaDoor
open Go.RowKit
set_option linter.unusedSimpArgs false
set_option linter.unusedVariables false
set_option maxHeartbeats 6400000 in
set_option maxRecDepth 100000 in
theorem cmd_SameCmd {w : World} {S T : Nat → Prop} {p q : Option Addr} {c d : Nat} {kind doc rev pos : Int} {name : List UInt8} {us : List Ut} (h : UtsRd w S (.slice p us.length c) us) (k : UtsRd w T (.slice q us.length d) us) (hl : us.length ≤ 1000000) :
    Calls Tryd.prog 7 #[.agg #[.int .i64 kind, .int .u32 doc, .string ⟨name.toArray⟩, .int .u64 rev, .int .i64 pos, .slice p us.length c], .agg #[.int .i64 kind, .int .u32 doc, .string ⟨name.toArray⟩, .int .u64 rev, .int .i64 pos, .slice q us.length d]] w fun x w' => x = .returned (.bool true) ∧ Below w.heap.size w w' := by
  have hb1 := (Below.refl w.heap.size w).alloc (Nat.le_refl _) (.cells #[.int .i64 kind, .int .u32 doc, .string ⟨name.toArray⟩, .int .u64 rev, .int .i64 pos, .slice p us.length c] 26)
  have hb2 := hb1.alloc hb1.size (.cells #[.int .i64 kind, .int .u32 doc, .string ⟨name.toArray⟩, .int .u64 rev, .int .i64 pos, .slice q us.length d] 26)
  have H := Lib.hid (h.below hb2)
  have K := Lib.hid (k.below hb2)
  have HB := Lib.hid hb2
  clear h k hb1 hb2
  go_enter Tryd.func7, Tryd.ntmps7
  go_wp2_with fail
  refine (slices_Equal_U H.out K.out hl hl).mono ?_
  rw [decide_eq_true (rfl : us = us)]
  rintro _ w2 ⟨rfl, hb⟩
  have HB2 := Lib.hid (HB.out.trans (hb.mono HB.out.size))
  clear hb
  go_wp2_with fail
  go_ret
  exact ⟨rfl, HB2.out⟩
end Go.Proofs.YtciojggkcmdjiaaDoor
