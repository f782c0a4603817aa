/-
  utf.May, utf.Size: their contracts, over the table that the program lays. Condition: the table reads so.
-/
import Derived.Test.YtciojggkcmdjiaaDoorBy
import Derived.LoopTactic
namespace Go.Proofs.YtciojggkcmdjiaaDoor
open Go.RowKit
set_option linter.unusedSimpArgs false
set_option linter.unusedVariables false

/-- The table of the forms, as the program lays it. -/
def fcells : List Value := [.int .i32 127, .int .u8 0, .int .u64 7, .int .i32 2047, .int .u8 192, .int .u64 5, .int .i32 65535, .int .u8 224, .int .u64 4, .int .i32 1114111, .int .u8 240, .int .u64 3]
structure Forms (w : World) : Prop where
  c : ∀ j u, fcells[j]? = some u → w.cell? ⟨0, j, none⟩ = some u
  z : 0 < w.heap.size
theorem Forms.below {w w' : World} (h : Forms w) (hb : Below w.heap.size w w') : Forms w' :=
  ⟨fun j u hj => (hb.cell (p := ⟨0, j, none⟩) h.z).trans (h.c j u hj), Nat.lt_of_lt_of_le h.z hb.size⟩
theorem Forms.keep {w w' : World} (h : Forms w) (hz : w.heap.size ≤ w'.heap.size) (hb : w'.heap[0]? = w.heap[0]?) : Forms w' :=
  ⟨fun j u hj => by
    have := h.c j u hj
    unfold World.cell? at this ⊢
    rw [hb]
    exact this, Nat.lt_of_lt_of_le h.z hz⟩
theorem Forms.ext {M : Nat → Prop} {w w' : World} (h : Forms w) (hE : Ext M w w') (hM : ¬ M 0) : Forms w' := h.keep hE.size (hE.block 0 h.z hM)

def mayC (c : Int) : Bool := decide (0 ≤ c) && (decide (c ≤ 1114111) && (decide (c < 55296) || decide (57343 < c)))
theorem utf_May {w : World} {c : Int} : Calls Tryd.prog 67 #[.int .i32 c] w fun x w' => x = .returned (.bool (mayC c)) ∧ w = w' := by
  unfold mayC
  by_cases h0 : 0 ≤ c
  · have d0 : decide (0 ≤ c) = true := by simpa using h0
    by_cases h1 : c ≤ 1114111
    · have d1 : decide (c ≤ 1114111) = true := by simpa using h1
      by_cases h2 : c < 55296
      · have d2 : decide (c < 55296) = true := by simpa using h2
        rw [d0, d1, d2]
        go_enter Tryd.func67, Tryd.ntmps67
        go_wp2_with fail
        go_ret
        exact ⟨rfl, rfl⟩
      · have d2 : decide (c < 55296) = false := by simpa using h2
        rw [d0, d1, d2]
        go_enter Tryd.func67, Tryd.ntmps67
        go_wp2_with fail
        go_ret
        exact ⟨rfl, rfl⟩
    · have d1 : decide (c ≤ 1114111) = false := by simpa using h1
      rw [d0, d1]
      go_enter Tryd.func67, Tryd.ntmps67
      go_wp2_with fail
      go_ret
      exact ⟨rfl, rfl⟩
  · have d0 : decide (0 ≤ c) = false := by simpa using h0
    rw [d0]
    go_enter Tryd.func67, Tryd.ntmps67
    go_wp2_with fail
    go_ret
    exact ⟨rfl, rfl⟩
theorem fx0 (w : World) : Sem.run Tryd.prog (Instr.index 131 (Value.agg #[.int .i32 127, .int .u8 0, .int .u64 7, .int .i32 2047, .int .u8 192, .int .u64 5, .int .i32 65535, .int .u8 224, .int .u64 4, .int .i32 1114111, .int .u8 240, .int .u64 3]) (.int .i64 0)) w = .ok (.agg #[.int .i32 127, .int .u8 0, .int .u64 7]) w := by kernel_rfl
theorem fx1 (w : World) : Sem.run Tryd.prog (Instr.index 131 (Value.agg #[.int .i32 127, .int .u8 0, .int .u64 7, .int .i32 2047, .int .u8 192, .int .u64 5, .int .i32 65535, .int .u8 224, .int .u64 4, .int .i32 1114111, .int .u8 240, .int .u64 3]) (.int .i64 1)) w = .ok (.agg #[.int .i32 2047, .int .u8 192, .int .u64 5]) w := by kernel_rfl
theorem fx2 (w : World) : Sem.run Tryd.prog (Instr.index 131 (Value.agg #[.int .i32 127, .int .u8 0, .int .u64 7, .int .i32 2047, .int .u8 192, .int .u64 5, .int .i32 65535, .int .u8 224, .int .u64 4, .int .i32 1114111, .int .u8 240, .int .u64 3]) (.int .i64 2)) w = .ok (.agg #[.int .i32 65535, .int .u8 224, .int .u64 4]) w := by kernel_rfl
theorem fx3 (w : World) : Sem.run Tryd.prog (Instr.index 131 (Value.agg #[.int .i32 127, .int .u8 0, .int .u64 7, .int .i32 2047, .int .u8 192, .int .u64 5, .int .i32 65535, .int .u8 224, .int .u64 4, .int .i32 1114111, .int .u8 240, .int .u64 3]) (.int .i64 3)) w = .ok (.agg #[.int .i32 1114111, .int .u8 240, .int .u64 3]) w := by kernel_rfl
def sizeC (c : Int) : Nat := if mayC c = false then 0 else if c ≤ 127 then 1 else if c ≤ 2047 then 2 else if c ≤ 65535 then 3 else 4
set_option maxHeartbeats 3200000 in
set_option maxRecDepth 100000 in
theorem utf_Size {w : World} {c : Int} (hF : Forms w) : Calls Tryd.prog 90 #[.int .i32 c] w fun x w' => x = .returned (.int .i64 (sizeC c)) ∧ Below w.heap.size w w' := by
  have k0 : w.cell? ⟨0, 0, none⟩ = _ := hF.c 0 _ rfl
  have k1 : w.cell? ⟨0, 1, none⟩ = _ := hF.c 1 _ rfl
  have k2 : w.cell? ⟨0, 2, none⟩ = _ := hF.c 2 _ rfl
  have k3 : w.cell? ⟨0, 3, none⟩ = _ := hF.c 3 _ rfl
  have k4 : w.cell? ⟨0, 4, none⟩ = _ := hF.c 4 _ rfl
  have k5 : w.cell? ⟨0, 5, none⟩ = _ := hF.c 5 _ rfl
  have k6 : w.cell? ⟨0, 6, none⟩ = _ := hF.c 6 _ rfl
  have k7 : w.cell? ⟨0, 7, none⟩ = _ := hF.c 7 _ rfl
  have k8 : w.cell? ⟨0, 8, none⟩ = _ := hF.c 8 _ rfl
  have k9 : w.cell? ⟨0, 9, none⟩ = _ := hF.c 9 _ rfl
  have k10 : w.cell? ⟨0, 10, none⟩ = _ := hF.c 10 _ rfl
  have k11 : w.cell? ⟨0, 11, none⟩ = _ := hF.c 11 _ rfl
  clear hF
  obtain ⟨sz, hsz⟩ : ∃ x, sizeC c = x := ⟨_, rfl⟩
  rw [hsz]
  have Hsz := Lib.hid hsz
  clear hsz
  go_enter Tryd.func90, Tryd.ntmps90
  go_wp2_with fail
  refine utf_May.mono ?_
  rintro _ _ ⟨rfl, rfl⟩
  cases hm : mayC c with
  | false =>
    have e : sz = 0 := by rw [← Hsz.out]; unfold sizeC; rw [hm]; rfl
    subst e
    go_wp2_with fail
    go_ret
    exact ⟨rfl, Below.refl _ w⟩
  | true =>
    have Hm := Lib.hid hm
    clear hm
    go_wp2_with fail
    go_loopw [9] (fun iv wr => ∃ k : Nat, k ≤ 4 ∧ iv = .int .i64 k ∧ Hid (Below w.heap.size w wr ∧ (0 < k → 127 < c) ∧ (1 < k → 2047 < c) ∧ (2 < k → 65535 < c) ∧ k < 4)) (fun iv _ => 4 - (intOf iv).toNat)
    case atStart => exact ⟨0, by omega, rfl, Lib.hid ⟨Below.refl _ w, by omega, by omega, by omega, by omega⟩⟩
    case round =>
      obtain ⟨k, hk, rfl, hR⟩ := hrel
      have hk4 := hR.out.2.2.2.2
      rcases (show k = 0 ∨ k = 1 ∨ k = 2 ∨ k = 3 by omega) with rfl | rfl | rfl | rfl
      · clear hk hk4
        have e0 := fx0
        by_cases hc : c ≤ 127
        · have dc : decide (c ≤ 127) = true := by simpa using hc
          have e : sz = 1 := by rw [← Hsz.out]; unfold sizeC; rw [Hm.out]; (repeat' split) <;> first | omega | simp_all
          subst e
          have HB := Lib.hid hR.out.1
          have hz := hR.out.1.size
          clear hc hR hz 
          go_wp2_with fail
          go_ret
          exact ⟨rfl, HB.out.trans (((Below.refl wr.heap.size wr).alloc (Nat.le_refl _) _).mono HB.out.size)⟩
        · have dc : decide (c ≤ 127) = false := by simpa using hc
          have HN := Lib.hid (show Below w.heap.size w (wr.alloc (.cells #[.int .i32 127, .int .u8 0, .int .u64 7] 130)) ∧ (0 < 1 → 127 < c) ∧ (1 < 1 → 2047 < c) ∧ (2 < 1 → 65535 < c) ∧ 1 < 4 from ⟨hR.out.1.trans (((Below.refl wr.heap.size wr).alloc (Nat.le_refl _) _).mono hR.out.1.size), by omega, by omega, by omega, by omega⟩)
          clear hc hR 
          go_wp2_with fail
          go_roundw
          case rel => exact ⟨1, by omega, by go_num, HN⟩
          case measure => simp [intOf]
      · clear hk hk4
        have e1 := fx1
        have h0 : 127 < c := hR.out.2.1 (by omega)
        by_cases hc : c ≤ 2047
        · have dc : decide (c ≤ 2047) = true := by simpa using hc
          have e : sz = 2 := by rw [← Hsz.out]; unfold sizeC; rw [Hm.out]; (repeat' split) <;> first | omega | simp_all
          subst e
          have HB := Lib.hid hR.out.1
          have hz := hR.out.1.size
          clear hc hR hz h0
          go_wp2_with fail
          go_ret
          exact ⟨rfl, HB.out.trans (((Below.refl wr.heap.size wr).alloc (Nat.le_refl _) _).mono HB.out.size)⟩
        · have dc : decide (c ≤ 2047) = false := by simpa using hc
          have HN := Lib.hid (show Below w.heap.size w (wr.alloc (.cells #[.int .i32 2047, .int .u8 192, .int .u64 5] 130)) ∧ (0 < 2 → 127 < c) ∧ (1 < 2 → 2047 < c) ∧ (2 < 2 → 65535 < c) ∧ 2 < 4 from ⟨hR.out.1.trans (((Below.refl wr.heap.size wr).alloc (Nat.le_refl _) _).mono hR.out.1.size), by omega, by omega, by omega, by omega⟩)
          clear hc hR h0
          go_wp2_with fail
          go_roundw
          case rel => exact ⟨2, by omega, by go_num, HN⟩
          case measure => simp [intOf]
      · clear hk hk4
        have e2 := fx2
        have h0 : 127 < c := hR.out.2.1 (by omega)
        have h1 : 2047 < c := hR.out.2.2.1 (by omega)
        by_cases hc : c ≤ 65535
        · have dc : decide (c ≤ 65535) = true := by simpa using hc
          have e : sz = 3 := by rw [← Hsz.out]; unfold sizeC; rw [Hm.out]; (repeat' split) <;> first | omega | simp_all
          subst e
          have HB := Lib.hid hR.out.1
          have hz := hR.out.1.size
          clear hc hR hz h0 h1
          go_wp2_with fail
          go_ret
          exact ⟨rfl, HB.out.trans (((Below.refl wr.heap.size wr).alloc (Nat.le_refl _) _).mono HB.out.size)⟩
        · have dc : decide (c ≤ 65535) = false := by simpa using hc
          have HN := Lib.hid (show Below w.heap.size w (wr.alloc (.cells #[.int .i32 65535, .int .u8 224, .int .u64 4] 130)) ∧ (0 < 3 → 127 < c) ∧ (1 < 3 → 2047 < c) ∧ (2 < 3 → 65535 < c) ∧ 3 < 4 from ⟨hR.out.1.trans (((Below.refl wr.heap.size wr).alloc (Nat.le_refl _) _).mono hR.out.1.size), by omega, by omega, by omega, by omega⟩)
          clear hc hR h0 h1
          go_wp2_with fail
          go_roundw
          case rel => exact ⟨3, by omega, by go_num, HN⟩
          case measure => simp [intOf]
      · clear hk hk4
        have e3 := fx3
        have h0 : 127 < c := hR.out.2.1 (by omega)
        have h1 : 2047 < c := hR.out.2.2.1 (by omega)
        have h2 : 65535 < c := hR.out.2.2.2.1 (by omega)
        by_cases hc : c ≤ 1114111
        · have dc : decide (c ≤ 1114111) = true := by simpa using hc
          have e : sz = 4 := by rw [← Hsz.out]; unfold sizeC; rw [Hm.out]; (repeat' split) <;> first | omega | simp_all
          subst e
          have HB := Lib.hid hR.out.1
          have hz := hR.out.1.size
          clear hc hR hz h0 h1 h2
          go_wp2_with fail
          go_ret
          exact ⟨rfl, HB.out.trans (((Below.refl wr.heap.size wr).alloc (Nat.le_refl _) _).mono HB.out.size)⟩
        · have dc : decide (c ≤ 1114111) = false := by simpa using hc
          exfalso
          have := Hm.out
          unfold mayC at this
          simp at this
          omega
end Go.Proofs.YtciojggkcmdjiaaDoor
