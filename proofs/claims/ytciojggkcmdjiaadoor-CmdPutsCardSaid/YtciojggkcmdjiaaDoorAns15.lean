/-
  cmd.PutAnswer of an answer that tells an error alone: its contract. (Printed by wip/gen_ans15.py.)
-/
import Derived.Test.YtciojggkcmdjiaaDoorPutC15
namespace Go.Proofs.YtciojggkcmdjiaaDoor
open Go.RowKit
set_option linter.unusedSimpArgs false
set_option linter.unusedVariables false

theorem index_Char {w : World} {f : FuncId} : Calls Tryd.prog 84 #[.slice none 0 0, .func (.func f) #[] #[]] w fun x w' => x = .returned (.int .i64 (-1)) ∧ w = w' := by
  go_enter Tryd.func84, Tryd.ntmps84
  go_wp2_with fail
  go_loopw [8] (fun iv wr => iv = .int .i64 0 ∧ wr = w) (fun _ _ => 0)
  case atStart => exact ⟨rfl, rfl⟩
  case round =>
    obtain ⟨rfl, rfl⟩ := hrel
    go_wp2_with fail
    go_ret
    exact ⟨rfl, rfl⟩
theorem contains_Char {w : World} {f : FuncId} : Calls Tryd.prog 65 #[.slice none 0 0, .func (.func f) #[] #[]] w fun x w' => x = .returned (.bool false) ∧ w = w' := by
  go_enter Tryd.func65, Tryd.ntmps65
  go_wp2_with fail
  refine index_Char.mono ?_
  rintro _ _ ⟨rfl, rfl⟩
  go_wp2_with fail
  go_ret
  exact ⟨rfl, rfl⟩
theorem index_Op {w : World} {f : FuncId} : Calls Tryd.prog 85 #[.slice none 0 0, .func (.func f) #[] #[]] w fun x w' => x = .returned (.int .i64 (-1)) ∧ w = w' := by
  go_enter Tryd.func85, Tryd.ntmps85
  go_wp2_with fail
  go_loopw [8] (fun iv wr => iv = .int .i64 0 ∧ wr = w) (fun _ _ => 0)
  case atStart => exact ⟨rfl, rfl⟩
  case round =>
    obtain ⟨rfl, rfl⟩ := hrel
    go_wp2_with fail
    go_ret
    exact ⟨rfl, rfl⟩
theorem contains_Op {w : World} {f : FuncId} : Calls Tryd.prog 68 #[.slice none 0 0, .func (.func f) #[] #[]] w fun x w' => x = .returned (.bool false) ∧ w = w' := by
  go_enter Tryd.func68, Tryd.ntmps68
  go_wp2_with fail
  refine index_Op.mono ?_
  rintro _ _ ⟨rfl, rfl⟩
  go_wp2_with fail
  go_ret
  exact ⟨rfl, rfl⟩
theorem index_Seat {w : World} {f : FuncId} : Calls Tryd.prog 86 #[.slice none 0 0, .func (.func f) #[] #[]] w fun x w' => x = .returned (.int .i64 (-1)) ∧ w = w' := by
  go_enter Tryd.func86, Tryd.ntmps86
  go_wp2_with fail
  go_loopw [8] (fun iv wr => iv = .int .i64 0 ∧ wr = w) (fun _ _ => 0)
  case atStart => exact ⟨rfl, rfl⟩
  case round =>
    obtain ⟨rfl, rfl⟩ := hrel
    go_wp2_with fail
    go_ret
    exact ⟨rfl, rfl⟩
theorem contains_Seat {w : World} {f : FuncId} : Calls Tryd.prog 70 #[.slice none 0 0, .func (.func f) #[] #[]] w fun x w' => x = .returned (.bool false) ∧ w = w' := by
  go_enter Tryd.func70, Tryd.ntmps70
  go_wp2_with fail
  refine index_Seat.mono ?_
  rintro _ _ ⟨rfl, rfl⟩
  go_wp2_with fail
  go_ret
  exact ⟨rfl, rfl⟩
set_option maxHeartbeats 3200000 in
theorem may_err {w : World} : Calls Tryd.prog 36 #[.agg #[.int .i64 6, .int .u32 0, .int .u64 0, .bool false, .slice none 0 0, .slice none 0 0, .slice none 0 0]] w fun x w' => x = .returned (.bool true) ∧ Below w.heap.size w w' := by
  have HB := Lib.hid ((Below.refl w.heap.size w).alloc (Nat.le_refl _) (.cells #[.int .i64 6, .int .u32 0, .int .u64 0, .bool false, .slice none 0 0, .slice none 0 0, .slice none 0 0] 41))
  go_enter Tryd.func36, Tryd.ntmps36
  go_wp2_with fail
  refine contains_Char.mono ?_
  rintro _ _ ⟨rfl, rfl⟩
  go_wp2_with fail
  refine contains_Op.mono ?_
  rintro _ _ ⟨rfl, rfl⟩
  go_wp2_with fail
  refine contains_Seat.mono ?_
  rintro _ _ ⟨rfl, rfl⟩
  go_wp2_with fail
  go_ret
  exact ⟨rfl, HB.out⟩
theorem uv6 : Lib.uvarint 6 = [6] := by decide +kernel
theorem uv0 : Lib.uvarint 0 = [0] := by decide +kernel
theorem uvf : Lib.uvarint (false).toNat = [0] := by decide +kernel
theorem wr_BoolAny {w : World} {a : Nat} {x : Bool} {bs : List UInt8} (h : WrAny w a bs) (hb : bs.length + 10 ≤ 140737488355328) :
    Calls Tryd.prog 37 #[.pointer (some ⟨a, 0, none⟩), .bool x] w fun e w' => e = .returned (.tuple #[]) ∧ WrAny w' a (bs ++ Lib.uvarint x.toNat) ∧ Ext (· = a) w w' := by
  obtain ⟨lo, hi, h⟩ := h
  exact (wr_Bool h hb).mono fun e w' ⟨h1, h2, h3⟩ => ⟨h1, ⟨_, _, h2⟩, h3⟩
set_option maxHeartbeats 6400000 in
set_option maxRecDepth 100000 in
theorem put_err {w : World} : Calls Tryd.prog 12 #[.agg #[.int .i64 6, .int .u32 0, .int .u64 0, .bool false, .slice none 0 0, .slice none 0 0, .slice none 0 0]] w fun x w' => ∃ p c, x = .returned (.tuple #[.slice p 7 c, .int .i64 0]) ∧ CmdOwn w' w.heap.size (.slice p 7 c) [6, 0, 0, 0, 0, 0, 0] ∧ Below w.heap.size w w' := by
  have hb := (Below.refl w.heap.size w).alloc (Nat.le_refl _) (.cells #[.int .i64 6, .int .u32 0, .int .u64 0, .bool false, .slice none 0 0, .slice none 0 0, .slice none 0 0] 41)
  have HK := Lib.hid (Blk.new w 41 #[.int .i64 6, .int .u32 0, .int .u64 0, .bool false, .slice none 0 0, .slice none 0 0, .slice none 0 0])
  have HB := Lib.hid hb
  clear hb
  go_enter Tryd.func12, Tryd.ntmps12
  go_wp2_with fail
  generalize w.alloc (.cells #[.int .i64 6, .int .u32 0, .int .u64 0, .bool false, .slice none 0 0, .slice none 0 0, .slice none 0 0] 41) = W1 at *
  refine may_err.mono ?_
  rintro _ w2 ⟨rfl, hb2⟩
  have hK2 := HK.out.below hb2
  have HB2 := Lib.hid (HB.out.trans (hb2.mono HB.out.size))
  have hba := (Below.refl w2.heap.size w2).alloc (Nat.le_refl _) (.cells #[.slice none 0 0] 59)
  have HK3 := Lib.hid (hK2.below hba)
  have HB3 := Lib.hid (HB2.out.trans (hba.mono HB2.out.size))
  have HW3 := Lib.hid (WrAny.new w2)
  have Hne := Lib.hid (show w.heap.size ≠ w2.heap.size by have := hK2.lt; omega)
  have Haw := Lib.hid (show w.heap.size ≤ w2.heap.size from Nat.le_of_lt hK2.lt)
  have m0 := hK2.cell 0
  have m1 := hK2.cell 1
  have m2 := hK2.cell 2
  have m3 := hK2.cell 3
  have m4 := hK2.cell 4
  have m5 := hK2.cell 5
  have m6 := hK2.cell 6
  have hz := hK2.lt
  simp only [List.getElem?_toArray, List.getElem?_cons_succ, List.getElem?_cons_zero] at m0 m1 m2 m3 m4 m5 m6
  clear hb2 hK2 hba HK HB HB2
  go_wp2_with fail
  generalize w2.alloc (.cells #[.slice none 0 0] 59) = W3 at *
  generalize w2.heap.size = a at *
  refine (wr_Any (n := 6) HW3.out (by decide) (by simp)).mono ?_
  rintro _ w4 ⟨rfl, hw, hE⟩
  have HW4 := Lib.hid (show WrAny w4 a [6] from by rw [uv6] at hw; exact hw)
  have HE4 := Lib.hid (hE)
  have hK := HK3.out.ext HE4.out Hne.out
  clear hw hE m0 m1 m2 m3 m4 m5 m6 hz
  have m0 := hK.cell 0
  have m1 := hK.cell 1
  have m2 := hK.cell 2
  have m3 := hK.cell 3
  have m4 := hK.cell 4
  have m5 := hK.cell 5
  have m6 := hK.cell 6
  have hz := hK.lt
  simp only [List.getElem?_toArray, List.getElem?_cons_succ, List.getElem?_cons_zero] at m0 m1 m2 m3 m4 m5 m6
  clear hK
  go_wp2_with fail
  refine (wr_Any (n := 0) HW4.out (by decide) (by simp)).mono ?_
  rintro _ w5 ⟨rfl, hw, hE⟩
  have HW5 := Lib.hid (show WrAny w5 a [6, 0] from by rw [uv0] at hw; exact hw)
  have HE5 := Lib.hid (HE4.out.trans hE)
  have hK := HK3.out.ext HE5.out Hne.out
  clear hw hE m0 m1 m2 m3 m4 m5 m6 hz HW4 HE4
  have m0 := hK.cell 0
  have m1 := hK.cell 1
  have m2 := hK.cell 2
  have m3 := hK.cell 3
  have m4 := hK.cell 4
  have m5 := hK.cell 5
  have m6 := hK.cell 6
  have hz := hK.lt
  simp only [List.getElem?_toArray, List.getElem?_cons_succ, List.getElem?_cons_zero] at m0 m1 m2 m3 m4 m5 m6
  clear hK
  go_wp2_with fail
  refine (wr_Any (n := 0) HW5.out (by decide) (by simp)).mono ?_
  rintro _ w6 ⟨rfl, hw, hE⟩
  have HW6 := Lib.hid (show WrAny w6 a [6, 0, 0] from by rw [uv0] at hw; exact hw)
  have HE6 := Lib.hid (HE5.out.trans hE)
  have hK := HK3.out.ext HE6.out Hne.out
  clear hw hE m0 m1 m2 m3 m4 m5 m6 hz HW5 HE5
  have m0 := hK.cell 0
  have m1 := hK.cell 1
  have m2 := hK.cell 2
  have m3 := hK.cell 3
  have m4 := hK.cell 4
  have m5 := hK.cell 5
  have m6 := hK.cell 6
  have hz := hK.lt
  simp only [List.getElem?_toArray, List.getElem?_cons_succ, List.getElem?_cons_zero] at m0 m1 m2 m3 m4 m5 m6
  clear hK
  go_wp2_with fail
  refine (wr_BoolAny (x := false) HW6.out (by simp)).mono ?_
  rintro _ w7 ⟨rfl, hw, hE⟩
  have HW7 := Lib.hid (show WrAny w7 a [6, 0, 0, 0] from by rw [uvf] at hw; exact hw)
  have HE7 := Lib.hid (HE6.out.trans hE)
  have hK := HK3.out.ext HE7.out Hne.out
  clear hw hE m0 m1 m2 m3 m4 m5 m6 hz HW6 HE6
  have m0 := hK.cell 0
  have m1 := hK.cell 1
  have m2 := hK.cell 2
  have m3 := hK.cell 3
  have m4 := hK.cell 4
  have m5 := hK.cell 5
  have m6 := hK.cell 6
  have hz := hK.lt
  simp only [List.getElem?_toArray, List.getElem?_cons_succ, List.getElem?_cons_zero] at m0 m1 m2 m3 m4 m5 m6
  clear hK
  go_wp2_with fail
  refine (wr_Any (n := 0) HW7.out (by decide) (by simp)).mono ?_
  rintro _ w8 ⟨rfl, hw, hE⟩
  have HW8 := Lib.hid (show WrAny w8 a [6, 0, 0, 0, 0] from by rw [uv0] at hw; exact hw)
  have HE8 := Lib.hid (HE7.out.trans hE)
  have hK := HK3.out.ext HE8.out Hne.out
  clear hw hE m0 m1 m2 m3 m4 m5 m6 hz HW7 HE7
  have m0 := hK.cell 0
  have m1 := hK.cell 1
  have m2 := hK.cell 2
  have m3 := hK.cell 3
  have m4 := hK.cell 4
  have m5 := hK.cell 5
  have m6 := hK.cell 6
  have hz := hK.lt
  simp only [List.getElem?_toArray, List.getElem?_cons_succ, List.getElem?_cons_zero] at m0 m1 m2 m3 m4 m5 m6
  clear hK
  go_wp2_with fail
  go_loopw [36] (fun iv wr => iv = .int .i64 0 ∧ wr = w8) (fun _ _ => 0)
  case atStart => exact ⟨rfl, rfl⟩
  case round =>
    obtain ⟨rfl, hwr⟩ := hrel
    subst hwr
    go_wp2_with fail
    refine (wr_Any (n := 0) HW8.out (by decide) (by simp)).mono ?_
    rintro _ w9 ⟨rfl, hw, hE⟩
    have HW9 := Lib.hid (show WrAny w9 a [6, 0, 0, 0, 0, 0] from by rw [uv0] at hw; exact hw)
    have HE9 := Lib.hid (HE8.out.trans hE)
    have hK := HK3.out.ext HE9.out Hne.out
    clear hw hE m0 m1 m2 m3 m4 m5 m6 hz HW8 HE8
    have m0 := hK.cell 0
    have m1 := hK.cell 1
    have m2 := hK.cell 2
    have m3 := hK.cell 3
    have m4 := hK.cell 4
    have m5 := hK.cell 5
    have m6 := hK.cell 6
    have hz := hK.lt
    simp only [List.getElem?_toArray, List.getElem?_cons_succ, List.getElem?_cons_zero] at m0 m1 m2 m3 m4 m5 m6
    clear hK
    go_wp2_with fail
    go_loopw [52] (fun iv wr => iv = .int .i64 0 ∧ wr = w9) (fun _ _ => 0)
    case atStart => exact ⟨rfl, rfl⟩
    case round =>
      obtain ⟨rfl, hwr⟩ := hrel
      subst hwr
      go_wp2_with fail
      refine (wr_Any (n := 0) HW9.out (by decide) (by simp)).mono ?_
      rintro _ w10 ⟨rfl, hw, hE⟩
      have HW10 := Lib.hid (show WrAny w10 a [6, 0, 0, 0, 0, 0, 0] from by rw [uv0] at hw; exact hw)
      have HE10 := Lib.hid (HE9.out.trans hE)
      have hK := HK3.out.ext HE10.out Hne.out
      clear hw hE m0 m1 m2 m3 m4 m5 m6 hz HW9 HE9
      have m0 := hK.cell 0
      have m1 := hK.cell 1
      have m2 := hK.cell 2
      have m3 := hK.cell 3
      have m4 := hK.cell 4
      have m5 := hK.cell 5
      have m6 := hK.cell 6
      have hz := hK.lt
      simp only [List.getElem?_toArray, List.getElem?_cons_succ, List.getElem?_cons_zero] at m0 m1 m2 m3 m4 m5 m6
      clear hK
      go_wp2_with fail
      go_loopw [67] (fun iv wr => iv = .int .i64 0 ∧ wr = w10) (fun _ _ => 0)
      case atStart => exact ⟨rfl, rfl⟩
      case round =>
        obtain ⟨rfl, hwr⟩ := hrel
        subst hwr
        go_wp2_with fail
        refine (wr_OutAny HW10.out (by decide)).mono ?_
        rintro _ w11 ⟨q, d, rfl, ho, hb⟩
        have HBx := Lib.hid (Ext.from HB3.out HE10.out (fun j hj => by have := Haw.out; omega))
        have HO := Lib.hid (ho.base HBx.out.size)
        have HB11 := Lib.hid (HBx.out.trans (hb.mono HBx.out.size))
        clear ho hb
        go_wp2_with fail
        go_ret2
        exact ⟨q, d, rfl, HO.out, HB11.out⟩
end Go.Proofs.YtciojggkcmdjiaaDoor
