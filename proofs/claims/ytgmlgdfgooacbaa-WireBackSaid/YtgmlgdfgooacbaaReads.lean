/-
  copybooklaw03.reads: the contract; what was written is read. Condition: the thing can be read. (Printed by wip/gen_wback.py.)
-/
import Derived.Test.YtgmlgdfgooacbaaWritten
namespace Go.Proofs.Ytgmlgdfgooacbaa
open Go.RowKit
set_option linter.unusedSimpArgs false
set_option linter.unusedVariables false

def StrAt (T : Nat → Prop) (v : Value) (b : List UInt8) (w : World) : Prop := CmdRd w T v b
/-- A thing read: is it that one? The reader behind it. -/
def rdThing (s : RS) (t : Thing) : Bool × RS :=
  if t.what = 1 then ((rdInt s).1 == IntKind.i64.wrap (t.n : Int), (rdInt s).2)
  else if t.what = 2 then ((rdBool s).1 == ((t.n : Int) % 2 == 1), (rdBool s).2)
  else if t.what = 3 then ((rdBytes s 300).1 == t.b.take 300, (rdBytes s 300).2)
  else if t.what = 4 then ((rdBytes s (t.b.take 300).length).1 == t.b.take 300, (rdBytes s (t.b.take 300).length).2)
  else (((rdNum s).1 : Int) == (t.n : Int), (rdNum s).2)

set_option maxHeartbeats 1600000 in
theorem reads_1 {w : World} {T : Nat → Prop} {lo a n db : Nat} {s : RS} {what : Int} {qb : Option Addr} {b0 : List UInt8} (h : RdAt w lo a s) (hle : lo ≤ a) (hb : s.b.length ≤ 200000000000000) (hr : CmdRd w T (.slice qb b0.length db) b0) (hT : ¬ T a) (hd : b0.length ≤ db) (hd2 : db ≤ 9223372036854775807) :
    Calls Try.prog 35 #[.pointer (some ⟨a, 0, none⟩), .agg #[.int .i64 1, .int .u64 n, .slice qb b0.length db]] w fun x w' => x = .returned (.bool (rdThing s ⟨1, n, b0⟩).1) ∧ RdAt w' lo a (rdThing s ⟨1, n, b0⟩).2 ∧ Ext (fun k => k = a) w w' := by
  have hval : (rdThing s ⟨1, n, b0⟩).1 = ((rdInt s).1 == IntKind.i64.wrap (n : Int)) := rfl
  have hst : (rdThing s ⟨1, n, b0⟩).2 = (rdInt s).2 := rfl
  rw [hval, hst]
  clear hval hst
  obtain ⟨b, hbe, hb300, hbl2⟩ : ∃ b, b0.take 300 = b ∧ b.length ≤ 300 ∧ b.length ≤ b0.length := ⟨_, rfl, by rw [List.length_take]; omega, by rw [List.length_take]; omega⟩
  have hm : (if (300 : Int) < (b0.length : Int) then (300 : Int) else (b0.length : Int)) = (b.length : Int) := by rw [← hbe, List.length_take]; split <;> omega
  have hX0 := (Below.refl w.heap.size w).alloc (Nat.le_refl _) (.cells #[.int .i64 1, .int .u64 n, .slice qb b0.length db] 28)
  have hbr : CmdRd w T (.slice qb b.length db) b := by
    have h := hr.front hbl2
    rw [← hbe, List.length_take, ← List.take_take, List.take_length] at h
    rw [← hbe, List.length_take]
    exact h
  have hal := h.lt
  have H0 := Lib.hid (h.below hX0)
  have HB := Lib.hid (hbr.below hX0)
  have HX0 := Lib.hid hX0
  have kA0 := Blk.new w 28 #[.int .i64 1, .int .u64 n, .slice qb b0.length db]
  obtain ⟨m0, m1, m2, f0, f1, f2, hz⟩ := kA0.c3
  have HA := Lib.hid kA0
  clear h hr hX0 hbr kA0
  go_enter Try.func35, Try.ntmps35
  go_wp2_with fail
  clear hm
  generalize hWg : w.alloc (.cells #[.int .i64 1, .int .u64 n, .slice qb b0.length db] 28) = W at *
  clear hWg
  have hS : Hold1 (w.heap.size, 1, .int .u64 n) W.drew := m1
  have hT0 : Hold0 W.drew := trivial
  refine begin_D [] (by kernel_rfl) hS (fun _ => hT0) ?_
  refine take_S (v := ?v0a) 0 rfl (by kernel_rfl) (by kernel_rfl) (by kernel_rfl) (by kernel_rfl) (fun _ _ _ h => h) hS (fun _ => trivial) rfl (fun w' hq => ?h0a) ?_
  case h0a => change _ = some _ at hq; go_simp; try with_reducible rfl
  try simp only [Act.put, List.setIfInBounds_toArray, List.set_cons_zero, List.set_cons_succ, List.getElem_toArray, List.getElem_cons_succ, List.getElem_cons_zero]
  refine take_S (v := ?v2a) 2 rfl (by kernel_rfl) (by kernel_rfl) (by kernel_rfl) (by kernel_rfl) (fun _ _ _ h => h) hS (fun _ => trivial) rfl (fun w' hq => ?h2a) ?_
  case h2a => change _ = some _ at hq; go_simp; try with_reducible rfl
  try simp only [Act.put, List.setIfInBounds_toArray, List.set_cons_zero, List.set_cons_succ, List.getElem_toArray, List.getElem_cons_succ, List.getElem_cons_zero]
  refine take_S (v := ?v3a) 3 rfl (by kernel_rfl) (by kernel_rfl) (by kernel_rfl) (by kernel_rfl) (fun _ _ _ h => h) hS (fun _ => trivial) rfl (fun w' hq => ?h3a) ?_
  case h3a => change _ = some _ at hq; go_simp; try with_reducible rfl
  try simp only [Act.put, List.setIfInBounds_toArray, List.set_cons_zero, List.set_cons_succ, List.getElem_toArray, List.getElem_cons_succ, List.getElem_cons_zero]
  refine take_S (v := ?v4a) 4 rfl (by kernel_rfl) (by kernel_rfl) (by kernel_rfl) (by kernel_rfl) (fun _ _ _ h => h) hS (fun _ => trivial) rfl (fun w' hq => ?h4a) ?_
  case h4a => change _ = some _ at hq; go_simp; try with_reducible rfl
  try simp only [Act.put, List.setIfInBounds_toArray, List.set_cons_zero, List.set_cons_succ, List.getElem_toArray, List.getElem_cons_succ, List.getElem_cons_zero]
  refine one_D 1 rfl (by kernel_rfl) (fun KQ hK => ?_)
  go_simp
  have H0d := Lib.hid (H0.out.below ((Below.refl W.heap.size W).drew))
  refine (rd_Int H0d.out hle).mono ?_
  rintro x w2 ⟨rfl, hr2, hX⟩
  have hS1 : Hold1 (w.heap.size, 1, .int .u64 n) w2 := by
    have kk := Blk.ext (Blk.drew HA.out) hX (by show ¬ w.heap.size = a; omega)
    exact kk.cell 1
  have HR2 := Lib.hid hr2
  have HX2 := Lib.hid ((Ext.of_below (fun k => k = a) (HX0.out.drew)).trans hX)
  refine hK.out _ _ hS1 (fun _ => trivial) ?_
  clear hK hS hr2 hX
  refine take_S (v := ?v5a) 5 rfl (by kernel_rfl) (by kernel_rfl) (by kernel_rfl) (by kernel_rfl) (fun _ _ _ h => h) hS1 (fun _ => trivial) rfl (fun w' hq => ?h5a) ?_
  case h5a => change _ = some _ at hq; go_simp; try with_reducible rfl
  try simp only [Act.put, List.setIfInBounds_toArray, List.set_cons_zero, List.set_cons_succ, List.getElem_toArray, List.getElem_cons_succ, List.getElem_cons_zero]
  refine take_S (v := ?v6a) 6 rfl (by kernel_rfl) (by kernel_rfl) (by kernel_rfl) (by kernel_rfl) (fun _ _ _ h => h) hS1 (fun _ => trivial) rfl (fun w' hq => ?h6a) ?_
  case h6a => change _ = some _ at hq; go_simp; try with_reducible rfl
  try simp only [Act.put, List.setIfInBounds_toArray, List.set_cons_zero, List.set_cons_succ, List.getElem_toArray, List.getElem_cons_succ, List.getElem_cons_zero]
  refine done_D (by kernel_rfl) ?_ _
  clear hS1 hT0
  go_wp2_with fail
  go_ret
  exact ⟨rfl, HR2.out, HX2.out⟩

set_option maxHeartbeats 1600000 in
theorem reads_2 {w : World} {T : Nat → Prop} {lo a n db : Nat} {s : RS} {what : Int} {qb : Option Addr} {b0 : List UInt8} (h : RdAt w lo a s) (hle : lo ≤ a) (hb : s.b.length ≤ 200000000000000) (hr : CmdRd w T (.slice qb b0.length db) b0) (hT : ¬ T a) (hd : b0.length ≤ db) (hd2 : db ≤ 9223372036854775807) :
    Calls Try.prog 35 #[.pointer (some ⟨a, 0, none⟩), .agg #[.int .i64 2, .int .u64 n, .slice qb b0.length db]] w fun x w' => x = .returned (.bool (rdThing s ⟨2, n, b0⟩).1) ∧ RdAt w' lo a (rdThing s ⟨2, n, b0⟩).2 ∧ Ext (fun k => k = a) w w' := by
  have hval : (rdThing s ⟨2, n, b0⟩).1 = ((rdBool s).1 == ((n : Int) % 2 == 1)) := rfl
  have hst : (rdThing s ⟨2, n, b0⟩).2 = (rdBool s).2 := rfl
  rw [hval, hst]
  clear hval hst
  obtain ⟨b, hbe, hb300, hbl2⟩ : ∃ b, b0.take 300 = b ∧ b.length ≤ 300 ∧ b.length ≤ b0.length := ⟨_, rfl, by rw [List.length_take]; omega, by rw [List.length_take]; omega⟩
  have hm : (if (300 : Int) < (b0.length : Int) then (300 : Int) else (b0.length : Int)) = (b.length : Int) := by rw [← hbe, List.length_take]; split <;> omega
  have hX0 := (Below.refl w.heap.size w).alloc (Nat.le_refl _) (.cells #[.int .i64 2, .int .u64 n, .slice qb b0.length db] 28)
  have hbr : CmdRd w T (.slice qb b.length db) b := by
    have h := hr.front hbl2
    rw [← hbe, List.length_take, ← List.take_take, List.take_length] at h
    rw [← hbe, List.length_take]
    exact h
  have hal := h.lt
  have H0 := Lib.hid (h.below hX0)
  have HB := Lib.hid (hbr.below hX0)
  have HX0 := Lib.hid hX0
  have kA0 := Blk.new w 28 #[.int .i64 2, .int .u64 n, .slice qb b0.length db]
  obtain ⟨m0, m1, m2, f0, f1, f2, hz⟩ := kA0.c3
  have HA := Lib.hid kA0
  clear h hr hX0 hbr kA0
  go_enter Try.func35, Try.ntmps35
  go_wp2_with fail
  clear hm
  generalize hWg : w.alloc (.cells #[.int .i64 2, .int .u64 n, .slice qb b0.length db] 28) = W at *
  clear hWg
  have hS : Hold1 (w.heap.size, 1, .int .u64 n) W.drew := m1
  have hT0 : Hold0 W.drew := trivial
  refine begin_D [] (by kernel_rfl) hS (fun _ => hT0) ?_
  refine take_S (v := ?v0b) 0 rfl (by kernel_rfl) (by kernel_rfl) (by kernel_rfl) (by kernel_rfl) (fun _ _ _ h => h) hS (fun _ => trivial) rfl (fun w' hq => ?h0b) ?_
  case h0b => change _ = some _ at hq; go_simp; try with_reducible rfl
  try simp only [Act.put, List.setIfInBounds_toArray, List.set_cons_zero, List.set_cons_succ, List.getElem_toArray, List.getElem_cons_succ, List.getElem_cons_zero]
  refine take_S (v := ?v2b) 2 rfl (by kernel_rfl) (by kernel_rfl) (by kernel_rfl) (by kernel_rfl) (fun _ _ _ h => h) hS (fun _ => trivial) rfl (fun w' hq => ?h2b) ?_
  case h2b => change _ = some _ at hq; go_simp; try with_reducible rfl
  try simp only [Act.put, List.setIfInBounds_toArray, List.set_cons_zero, List.set_cons_succ, List.getElem_toArray, List.getElem_cons_succ, List.getElem_cons_zero]
  refine take_S (v := ?v3b) 3 rfl (by kernel_rfl) (by kernel_rfl) (by kernel_rfl) (by kernel_rfl) (fun _ _ _ h => h) hS (fun _ => trivial) rfl (fun w' hq => ?h3b) ?_
  case h3b => change _ = some _ at hq; go_simp; try with_reducible rfl
  try simp only [Act.put, List.setIfInBounds_toArray, List.set_cons_zero, List.set_cons_succ, List.getElem_toArray, List.getElem_cons_succ, List.getElem_cons_zero]
  refine take_S (v := ?v4b) 4 rfl (by kernel_rfl) (by kernel_rfl) (by kernel_rfl) (by kernel_rfl) (fun _ _ _ h => h) hS (fun _ => trivial) rfl (fun w' hq => ?h4b) ?_
  case h4b => change _ = some _ at hq; go_simp; try with_reducible rfl
  try simp only [Act.put, List.setIfInBounds_toArray, List.set_cons_zero, List.set_cons_succ, List.getElem_toArray, List.getElem_cons_succ, List.getElem_cons_zero]
  refine take_S (v := ?v5b) 5 rfl (by kernel_rfl) (by kernel_rfl) (by kernel_rfl) (by kernel_rfl) (fun _ _ _ h => h) hS (fun _ => trivial) rfl (fun w' hq => ?h5b) ?_
  case h5b => change _ = some _ at hq; go_simp; try with_reducible rfl
  try simp only [Act.put, List.setIfInBounds_toArray, List.set_cons_zero, List.set_cons_succ, List.getElem_toArray, List.getElem_cons_succ, List.getElem_cons_zero]
  refine one_D 1 rfl (by kernel_rfl) (fun KQ hK => ?_)
  go_simp
  have H0d := Lib.hid (H0.out.below ((Below.refl W.heap.size W).drew))
  refine (rd_Bool H0d.out hle).mono ?_
  rintro x w2 ⟨rfl, hr2, hX⟩
  have hS1 : Hold1 (w.heap.size, 1, .int .u64 n) w2 := by
    have kk := Blk.ext (Blk.drew HA.out) hX (by show ¬ w.heap.size = a; omega)
    exact kk.cell 1
  have HR2 := Lib.hid hr2
  have HX2 := Lib.hid ((Ext.of_below (fun k => k = a) (HX0.out.drew)).trans hX)
  refine hK.out _ _ hS1 (fun _ => trivial) ?_
  clear hK hS hr2 hX
  refine take_S (v := ?v6b) 6 rfl (by kernel_rfl) (by kernel_rfl) (by kernel_rfl) (by kernel_rfl) (fun _ _ _ h => h) hS1 (fun _ => trivial) rfl (fun w' hq => ?h6b) ?_
  case h6b => change _ = some _ at hq; go_simp; try with_reducible rfl
  try simp only [Act.put, List.setIfInBounds_toArray, List.set_cons_zero, List.set_cons_succ, List.getElem_toArray, List.getElem_cons_succ, List.getElem_cons_zero]
  refine take_S (v := ?v7b) 7 rfl (by kernel_rfl) (by kernel_rfl) (by kernel_rfl) (by kernel_rfl) (fun _ _ _ h => h) hS1 (fun _ => trivial) rfl (fun w' hq => ?h7b) ?_
  case h7b => change _ = some _ at hq; go_simp; try with_reducible rfl
  try simp only [Act.put, List.setIfInBounds_toArray, List.set_cons_zero, List.set_cons_succ, List.getElem_toArray, List.getElem_cons_succ, List.getElem_cons_zero]
  refine done_D (by kernel_rfl) ?_ _
  clear hS1 hT0
  go_wp2_with fail
  go_ret
  exact ⟨rfl, HR2.out, HX2.out⟩

set_option maxHeartbeats 1600000 in
theorem reads_3 {w : World} {T : Nat → Prop} {lo a n db : Nat} {s : RS} {what : Int} {qb : Option Addr} {b0 : List UInt8} (h : RdAt w lo a s) (hle : lo ≤ a) (hb : s.b.length ≤ 200000000000000) (hr : CmdRd w T (.slice qb b0.length db) b0) (hT : ¬ T a) (hd : b0.length ≤ db) (hd2 : db ≤ 9223372036854775807) :
    Calls Try.prog 35 #[.pointer (some ⟨a, 0, none⟩), .agg #[.int .i64 3, .int .u64 n, .slice qb b0.length db]] w fun x w' => x = .returned (.bool (rdThing s ⟨3, n, b0⟩).1) ∧ RdAt w' lo a (rdThing s ⟨3, n, b0⟩).2 ∧ Ext (fun k => k = a) w w' := by
  have hval : (rdThing s ⟨3, n, b0⟩).1 = ((rdBytes s 300).1 == b0.take 300) := rfl
  have hst : (rdThing s ⟨3, n, b0⟩).2 = (rdBytes s 300).2 := rfl
  rw [hval, hst]
  clear hval hst
  obtain ⟨b, hbe, hb300, hbl2⟩ : ∃ b, b0.take 300 = b ∧ b.length ≤ 300 ∧ b.length ≤ b0.length := ⟨_, rfl, by rw [List.length_take]; omega, by rw [List.length_take]; omega⟩
  have hm : (if (300 : Int) < (b0.length : Int) then (300 : Int) else (b0.length : Int)) = (b.length : Int) := by rw [← hbe, List.length_take]; split <;> omega
  have hX0 := (Below.refl w.heap.size w).alloc (Nat.le_refl _) (.cells #[.int .i64 3, .int .u64 n, .slice qb b0.length db] 28)
  have hbr : CmdRd w T (.slice qb b.length db) b := by
    have h := hr.front hbl2
    rw [← hbe, List.length_take, ← List.take_take, List.take_length] at h
    rw [← hbe, List.length_take]
    exact h
  have hal := h.lt
  have H0 := Lib.hid (h.below hX0)
  have HB := Lib.hid (hbr.below hX0)
  have HX0 := Lib.hid hX0
  have kA0 := Blk.new w 28 #[.int .i64 3, .int .u64 n, .slice qb b0.length db]
  obtain ⟨m0, m1, m2, f0, f1, f2, hz⟩ := kA0.c3
  have HA := Lib.hid kA0
  rw [hbe]
  clear h hr hX0 hbr kA0
  go_enter Try.func35, Try.ntmps35
  go_wp2_with fail
  clear hm
  generalize hWg : w.alloc (.cells #[.int .i64 3, .int .u64 n, .slice qb b0.length db] 28) = W at *
  clear hWg
  refine (rd_Bytes (most := 300) H0.out hle (by decide) hb).mono ?_
  rintro x w2 ⟨vx, rfl, ho, hr2, hX⟩
  obtain ⟨px, cx, rfl⟩ := ho.slice
  have HO := Lib.hid ho
  have HR2 := Lib.hid hr2
  have HX2 := Lib.hid ((Ext.of_below (fun k => k = a) HX0.out).trans hX)
  have HB2 := Lib.hid (Rd.ext HB.out hX (fun k hk e => hT (by have : k = a := e; subst this; exact hk)) (by decide))
  clear ho hr2 hX
  go_wp2_with fail
  refine (bytes_Equal HO.out.rd HB2.out).mono ?_
  rintro x w3 ⟨rfl, rfl⟩
  go_wp2_with fail
  go_ret
  exact ⟨rfl, HR2.out, HX2.out⟩

set_option maxHeartbeats 1600000 in
theorem reads_4 {w : World} {T : Nat → Prop} {lo a n db : Nat} {s : RS} {what : Int} {qb : Option Addr} {b0 : List UInt8} (h : RdAt w lo a s) (hle : lo ≤ a) (hb : s.b.length ≤ 200000000000000) (hr : CmdRd w T (.slice qb b0.length db) b0) (hT : ¬ T a) (hd : b0.length ≤ db) (hd2 : db ≤ 9223372036854775807) :
    Calls Try.prog 35 #[.pointer (some ⟨a, 0, none⟩), .agg #[.int .i64 4, .int .u64 n, .slice qb b0.length db]] w fun x w' => x = .returned (.bool (rdThing s ⟨4, n, b0⟩).1) ∧ RdAt w' lo a (rdThing s ⟨4, n, b0⟩).2 ∧ Ext (fun k => k = a) w w' := by
  have hval : (rdThing s ⟨4, n, b0⟩).1 = ((rdBytes s (b0.take 300).length).1 == b0.take 300) := rfl
  have hst : (rdThing s ⟨4, n, b0⟩).2 = (rdBytes s (b0.take 300).length).2 := rfl
  rw [hval, hst]
  clear hval hst
  obtain ⟨b, hbe, hb300, hbl2⟩ : ∃ b, b0.take 300 = b ∧ b.length ≤ 300 ∧ b.length ≤ b0.length := ⟨_, rfl, by rw [List.length_take]; omega, by rw [List.length_take]; omega⟩
  have hm : (if (300 : Int) < (b0.length : Int) then (300 : Int) else (b0.length : Int)) = (b.length : Int) := by rw [← hbe, List.length_take]; split <;> omega
  have hX0 := (Below.refl w.heap.size w).alloc (Nat.le_refl _) (.cells #[.int .i64 4, .int .u64 n, .slice qb b0.length db] 28)
  have hbr : CmdRd w T (.slice qb b.length db) b := by
    have h := hr.front hbl2
    rw [← hbe, List.length_take, ← List.take_take, List.take_length] at h
    rw [← hbe, List.length_take]
    exact h
  have hal := h.lt
  have H0 := Lib.hid (h.below hX0)
  have HB := Lib.hid (hbr.below hX0)
  have HX0 := Lib.hid hX0
  have kA0 := Blk.new w 28 #[.int .i64 4, .int .u64 n, .slice qb b0.length db]
  obtain ⟨m0, m1, m2, f0, f1, f2, hz⟩ := kA0.c3
  have HA := Lib.hid kA0
  rw [hbe]
  clear h hr hX0 hbr kA0
  go_enter Try.func35, Try.ntmps35
  go_wp2_with fail
  clear hm
  generalize hWg : w.alloc (.cells #[.int .i64 4, .int .u64 n, .slice qb b0.length db] 28) = W at *
  clear hWg
  have hS : StrAt T (.slice qb b.length db) b W.drew := HB.out
  have hT0 : Hold0 W.drew := trivial
  refine begin_D [] (by kernel_rfl) hS (fun _ => hT0) ?_
  refine take_S (v := ?v0d) 0 rfl (by kernel_rfl) (by kernel_rfl) (by kernel_rfl) (by kernel_rfl) (fun _ _ _ h => h) hS (fun _ => trivial) rfl (fun w' hq => ?h0d) ?_
  case h0d => go_simp; try with_reducible rfl
  try simp only [Act.put, List.setIfInBounds_toArray, List.set_cons_zero, List.set_cons_succ, List.getElem_toArray, List.getElem_cons_succ, List.getElem_cons_zero]
  refine take_S (v := ?v1d) 1 rfl (by kernel_rfl) (by kernel_rfl) (by kernel_rfl) (by kernel_rfl) (fun _ _ _ h => h) hS (fun _ => trivial) rfl (fun w' hq => ?h1d) ?_
  case h1d => go_simp; try with_reducible rfl
  try simp only [Act.put, List.setIfInBounds_toArray, List.set_cons_zero, List.set_cons_succ, List.getElem_toArray, List.getElem_cons_succ, List.getElem_cons_zero]
  refine take_S (v := ?v2d) 2 rfl (by kernel_rfl) (by kernel_rfl) (by kernel_rfl) (by kernel_rfl) (fun _ _ _ h => h) hS (fun _ => trivial) rfl (fun w' hq => ?h2d) ?_
  case h2d => go_simp; try with_reducible rfl
  try simp only [Act.put, List.setIfInBounds_toArray, List.set_cons_zero, List.set_cons_succ, List.getElem_toArray, List.getElem_cons_succ, List.getElem_cons_zero]
  refine take_S (v := ?v4d) 4 rfl (by kernel_rfl) (by kernel_rfl) (by kernel_rfl) (by kernel_rfl) (fun _ _ _ h => h) hS (fun _ => trivial) rfl (fun w' hq => ?h4d) ?_
  case h4d => go_simp; try with_reducible rfl
  try simp only [Act.put, List.setIfInBounds_toArray, List.set_cons_zero, List.set_cons_succ, List.getElem_toArray, List.getElem_cons_succ, List.getElem_cons_zero]
  refine take_S (v := ?v5d) 5 rfl (by kernel_rfl) (by kernel_rfl) (by kernel_rfl) (by kernel_rfl) (fun _ _ _ h => h) hS (fun _ => trivial) rfl (fun w' hq => ?h5d) ?_
  case h5d => have hstr := Rd.str hq; go_simp; try with_reducible rfl
  try simp only [Act.put, List.setIfInBounds_toArray, List.set_cons_zero, List.set_cons_succ, List.getElem_toArray, List.getElem_cons_succ, List.getElem_cons_zero]
  refine one_D 3 rfl (by kernel_rfl) (fun KQ hK => ?_)
  go_simp
  have H0d := Lib.hid (H0.out.below ((Below.refl W.heap.size W).drew))
  refine (rd_Str (most := (b.length : Int)) H0d.out hle (by omega) hb).mono ?_
  rintro x w2 ⟨rfl, hr2, hX⟩
  have hS1 : StrAt T (.slice qb b.length db) b w2 := Rd.ext (Rd.drew HB.out) hX (fun k hk e => hT (by have : k = a := e; subst this; exact hk)) (by decide)
  have HR2 := Lib.hid hr2
  have HX2 := Lib.hid ((Ext.of_below (fun k => k = a) (HX0.out.drew)).trans hX)
  refine hK.out _ _ hS1 (fun _ => trivial) ?_
  clear hK hS hr2 hX
  refine take_S (v := ?v6d) 6 rfl (by kernel_rfl) (by kernel_rfl) (by kernel_rfl) (by kernel_rfl) (fun _ _ _ h => h) hS1 (fun _ => trivial) rfl (fun w' hq => ?h6d) ?_
  case h6d => go_simp; try with_reducible rfl
  try simp only [Act.put, List.setIfInBounds_toArray, List.set_cons_zero, List.set_cons_succ, List.getElem_toArray, List.getElem_cons_succ, List.getElem_cons_zero]
  refine take_S (v := ?v7d) 7 rfl (by kernel_rfl) (by kernel_rfl) (by kernel_rfl) (by kernel_rfl) (fun _ _ _ h => h) hS1 (fun _ => trivial) rfl (fun w' hq => ?h7d) ?_
  case h7d => go_simp; try with_reducible rfl
  try simp only [Act.put, List.setIfInBounds_toArray, List.set_cons_zero, List.set_cons_succ, List.getElem_toArray, List.getElem_cons_succ, List.getElem_cons_zero]
  refine done_D (by kernel_rfl) ?_ _
  clear hS1 hT0
  go_wp2_with fail
  go_ret
  exact ⟨rfl, HR2.out, HX2.out⟩

set_option maxHeartbeats 1600000 in
theorem reads_0 {w : World} {T : Nat → Prop} {lo a n db : Nat} {s : RS} {what : Int} {qb : Option Addr} {b0 : List UInt8} (h : RdAt w lo a s) (hle : lo ≤ a) (hb : s.b.length ≤ 200000000000000) (hr : CmdRd w T (.slice qb b0.length db) b0) (hT : ¬ T a) (hd : b0.length ≤ db) (hd2 : db ≤ 9223372036854775807) (h1 : what ≠ 1) (h2 : what ≠ 2) (h3 : what ≠ 3) (h4 : what ≠ 4) :
    Calls Try.prog 35 #[.pointer (some ⟨a, 0, none⟩), .agg #[.int .i64 what, .int .u64 n, .slice qb b0.length db]] w fun x w' => x = .returned (.bool (rdThing s ⟨what, n, b0⟩).1) ∧ RdAt w' lo a (rdThing s ⟨what, n, b0⟩).2 ∧ Ext (fun k => k = a) w w' := by
  have hval : (rdThing s ⟨what, n, b0⟩).1 = (((rdNum s).1 : Int) == (n : Int)) := by simp only [rdThing]; rw [if_neg h1, if_neg h2, if_neg h3, if_neg h4]
  have hst : (rdThing s ⟨what, n, b0⟩).2 = (rdNum s).2 := by simp only [rdThing]; rw [if_neg h1, if_neg h2, if_neg h3, if_neg h4]
  rw [hval, hst]
  clear hval hst
  obtain ⟨b, hbe, hb300, hbl2⟩ : ∃ b, b0.take 300 = b ∧ b.length ≤ 300 ∧ b.length ≤ b0.length := ⟨_, rfl, by rw [List.length_take]; omega, by rw [List.length_take]; omega⟩
  have hm : (if (300 : Int) < (b0.length : Int) then (300 : Int) else (b0.length : Int)) = (b.length : Int) := by rw [← hbe, List.length_take]; split <;> omega
  have hX0 := (Below.refl w.heap.size w).alloc (Nat.le_refl _) (.cells #[.int .i64 what, .int .u64 n, .slice qb b0.length db] 28)
  have hbr : CmdRd w T (.slice qb b.length db) b := by
    have h := hr.front hbl2
    rw [← hbe, List.length_take, ← List.take_take, List.take_length] at h
    rw [← hbe, List.length_take]
    exact h
  have hal := h.lt
  have H0 := Lib.hid (h.below hX0)
  have HB := Lib.hid (hbr.below hX0)
  have HX0 := Lib.hid hX0
  have kA0 := Blk.new w 28 #[.int .i64 what, .int .u64 n, .slice qb b0.length db]
  obtain ⟨m0, m1, m2, f0, f1, f2, hz⟩ := kA0.c3
  have HA := Lib.hid kA0
  have t1 : (what == 1) = false := by simpa using h1
  have t2 : (what == 2) = false := by simpa using h2
  have t3 : (what == 3) = false := by simpa using h3
  have t4 : (what == 4) = false := by simpa using h4
  clear h1 h2 h3 h4
  clear h hr hX0 hbr kA0
  go_enter Try.func35, Try.ntmps35
  go_wp2_with fail
  clear hm
  generalize hWg : w.alloc (.cells #[.int .i64 what, .int .u64 n, .slice qb b0.length db] 28) = W at *
  clear hWg
  have hS : Hold1 (w.heap.size, 1, .int .u64 n) W.drew := m1
  have hT0 : Hold0 W.drew := trivial
  refine begin_D [] (by kernel_rfl) hS (fun _ => hT0) ?_
  refine take_S (v := ?v0e) 0 rfl (by kernel_rfl) (by kernel_rfl) (by kernel_rfl) (by kernel_rfl) (fun _ _ _ h => h) hS (fun _ => trivial) rfl (fun w' hq => ?h0e) ?_
  case h0e => change _ = some _ at hq; go_simp; try with_reducible rfl
  try simp only [Act.put, List.setIfInBounds_toArray, List.set_cons_zero, List.set_cons_succ, List.getElem_toArray, List.getElem_cons_succ, List.getElem_cons_zero]
  refine take_S (v := ?v2e) 2 rfl (by kernel_rfl) (by kernel_rfl) (by kernel_rfl) (by kernel_rfl) (fun _ _ _ h => h) hS (fun _ => trivial) rfl (fun w' hq => ?h2e) ?_
  case h2e => change _ = some _ at hq; go_simp; try with_reducible rfl
  try simp only [Act.put, List.setIfInBounds_toArray, List.set_cons_zero, List.set_cons_succ, List.getElem_toArray, List.getElem_cons_succ, List.getElem_cons_zero]
  refine take_S (v := ?v3e) 3 rfl (by kernel_rfl) (by kernel_rfl) (by kernel_rfl) (by kernel_rfl) (fun _ _ _ h => h) hS (fun _ => trivial) rfl (fun w' hq => ?h3e) ?_
  case h3e => change _ = some _ at hq; go_simp; try with_reducible rfl
  try simp only [Act.put, List.setIfInBounds_toArray, List.set_cons_zero, List.set_cons_succ, List.getElem_toArray, List.getElem_cons_succ, List.getElem_cons_zero]
  refine one_D 1 rfl (by kernel_rfl) (fun KQ hK => ?_)
  go_simp
  have H0d := Lib.hid (H0.out.below ((Below.refl W.heap.size W).drew))
  refine (rd_Num H0d.out hle).mono ?_
  rintro x w2 ⟨rfl, hr2, hX⟩
  have hS1 : Hold1 (w.heap.size, 1, .int .u64 n) w2 := by
    have kk := Blk.ext (Blk.drew HA.out) hX (by show ¬ w.heap.size = a; omega)
    exact kk.cell 1
  have HR2 := Lib.hid hr2
  have HX2 := Lib.hid ((Ext.of_below (fun k => k = a) (HX0.out.drew)).trans hX)
  refine hK.out _ _ hS1 (fun _ => trivial) ?_
  clear hK hS hr2 hX
  refine take_S (v := ?v4e) 4 rfl (by kernel_rfl) (by kernel_rfl) (by kernel_rfl) (by kernel_rfl) (fun _ _ _ h => h) hS1 (fun _ => trivial) rfl (fun w' hq => ?h4e) ?_
  case h4e => change _ = some _ at hq; go_simp; try with_reducible rfl
  try simp only [Act.put, List.setIfInBounds_toArray, List.set_cons_zero, List.set_cons_succ, List.getElem_toArray, List.getElem_cons_succ, List.getElem_cons_zero]
  refine take_S (v := ?v5e) 5 rfl (by kernel_rfl) (by kernel_rfl) (by kernel_rfl) (by kernel_rfl) (fun _ _ _ h => h) hS1 (fun _ => trivial) rfl (fun w' hq => ?h5e) ?_
  case h5e => change _ = some _ at hq; go_simp; try with_reducible rfl
  try simp only [Act.put, List.setIfInBounds_toArray, List.set_cons_zero, List.set_cons_succ, List.getElem_toArray, List.getElem_cons_succ, List.getElem_cons_zero]
  refine done_D (by kernel_rfl) ?_ _
  clear hS1 hT0
  go_wp2_with fail
  go_ret
  exact ⟨rfl, HR2.out, HX2.out⟩

theorem reads_any {w : World} {T : Nat → Prop} {lo a n db : Nat} {s : RS} {what : Int} {qb : Option Addr} {b0 : List UInt8} (h : RdAt w lo a s) (hle : lo ≤ a) (hb : s.b.length ≤ 200000000000000) (hr : CmdRd w T (.slice qb b0.length db) b0) (hT : ¬ T a) (hd : b0.length ≤ db) (hd2 : db ≤ 9223372036854775807) :
    Calls Try.prog 35 #[.pointer (some ⟨a, 0, none⟩), .agg #[.int .i64 what, .int .u64 n, .slice qb b0.length db]] w fun x w' => x = .returned (.bool (rdThing s ⟨what, n, b0⟩).1) ∧ RdAt w' lo a (rdThing s ⟨what, n, b0⟩).2 ∧ Ext (fun k => k = a) w w' := by
  by_cases h1 : what = 1
  · subst h1; exact reads_1 (what := 0) h hle hb hr hT hd hd2
  by_cases h2 : what = 2
  · subst h2; exact reads_2 (what := 0) h hle hb hr hT hd hd2
  by_cases h3 : what = 3
  · subst h3; exact reads_3 (what := 0) h hle hb hr hT hd hd2
  by_cases h4 : what = 4
  · subst h4; exact reads_4 (what := 0) h hle hb hr hT hd hd2
  exact reads_0 h hle hb hr hT hd hd2 h1 h2 h3 h4
end Go.Proofs.Ytgmlgdfgooacbaa
