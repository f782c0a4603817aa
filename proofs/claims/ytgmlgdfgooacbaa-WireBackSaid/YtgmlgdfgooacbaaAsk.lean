/-
  Calls of a reader, as data; WireFails' closure: the contract. (Printed by wip/gen_wfails.py.)
-/
import Derived.Test.YtgmlgdfgooacbaaWake03
namespace Go.Proofs.Ytgmlgdfgooacbaa
open Go.RowKit
set_option linter.unusedSimpArgs false
set_option linter.unusedVariables false

/-- Behind an error nothing is read. -/
theorem rdNum_err {s : RS} (h : s.e ≠ 0) : rdNum s = (0, s) := by simp [rdNum, h]
theorem rdInt_err {s : RS} (h : s.e ≠ 0) : rdInt s = (0, s) := by unfold rdInt; rw [rdNum_err h]; simp [Lib.unzigzag]
theorem rdBool_err {s : RS} (h : s.e ≠ 0) : rdBool s = (false, s) := by unfold rdBool; rw [rdNum_err h]; rfl
theorem rdCount_err {s : RS} {m : Int} (h : s.e ≠ 0) : rdCount s m = (0, s) := by unfold rdCount rdUpto; rw [rdNum_err h]; simp
theorem rdBytes_err {s : RS} {m : Int} (h : s.e ≠ 0) : rdBytes s m = ([], s) := by unfold rdBytes; rw [rdCount_err h]; simp [h]
theorem rdLeft_err {s : RS} (h : s.e ≠ 0) : rdLeft s = 0 := by simp [rdLeft, h]
theorem rdEnd_err {s : RS} (h : s.e ≠ 0) : rdEnd s = s := by unfold rdEnd; rw [rdLeft_err h]; simp
theorem rdFail_len (s : RS) (x : Int) : (rdFail s x).b.length = s.b.length := by unfold rdFail; split <;> rfl
theorem rdNum_len (s : RS) : (rdNum s).2.b.length ≤ s.b.length := by
  unfold rdNum
  split
  · split
    · show (s.b.drop _).length ≤ _
      rw [List.length_drop]; omega
    · exact Nat.le_refl _
  · exact Nat.le_refl _
theorem rdBool_len (s : RS) : (rdBool s).2.b.length ≤ s.b.length := by
  unfold rdBool
  show (if _ then _ else _ : RS).b.length ≤ _
  split
  · rw [rdFail_len]; exact rdNum_len s
  · exact rdNum_len s
theorem rdCount_len (s : RS) (m : Int) : (rdCount s m).2.b.length ≤ s.b.length := by
  unfold rdCount rdUpto
  split
  · show (rdFail _ _).b.length ≤ _
    rw [rdFail_len]; exact rdNum_len s
  · exact rdNum_len s
theorem rdBytes_len (s : RS) (m : Int) : (rdBytes s m).2.b.length ≤ s.b.length := by
  have h := rdCount_len s m
  unfold rdBytes
  split
  · split
    · show ((rdCount s m).2.b.drop _).length ≤ _
      rw [List.length_drop]; omega
    · exact h
  · exact h
theorem rdEnd_len (s : RS) : (rdEnd s).b.length ≤ s.b.length := by
  unfold rdEnd
  split
  · rw [rdFail_len]; exact Nat.le_refl _
  · exact Nat.le_refl _

/-- What a call leaves: true; behind an error the reader as it was. -/
def Asked (w : World) (lo a : Nat) (s : RS) (x : Ending) (w' : World) : Prop := ∃ s', x = .returned (.bool true) ∧ RdAt w' lo a s' ∧ s'.b.length ≤ s.b.length ∧ (s.e ≠ 0 → s' = s) ∧ Ext (fun k => k = a) w w'

set_option maxHeartbeats 1600000 in
theorem ask_0_ok {w : World} {lo a g : Nat} {s : RS} {most n : Int} (h : RdAt w lo a s) (hle : lo ≤ a) (hm : most ≤ 9223372036854775807) (hb : s.b.length ≤ 200000000000000) (kR : Blk w g 42 #[.pointer (some ⟨a, 0, none⟩)]) (hga : g ≠ a) (he : s.e = 0) :
    Calls Try.prog 29 #[.agg #[.int .i64 0, .int .i64 most, .int .u64 n], .pointer (some ⟨g, 0, none⟩)] w (Asked w lo a s) := by
  have hX0 := (Below.refl w.heap.size w).alloc (Nat.le_refl _) (.cells #[.int .i64 0, .int .i64 most, .int .u64 n] 53)
  have H0 := Lib.hid (h.below hX0)
  have kR0 := kR.below hX0
  have kA0 := Blk.new w 53 #[.int .i64 0, .int .i64 most, .int .u64 n]
  have hal := h.lt
  obtain ⟨m0, m1, m2, f0, f1, f2, hz⟩ := kA0.c3
  obtain ⟨r0, r1, hz1⟩ := kR0.c1
  have HA := Lib.hid kA0
  have HR := Lib.hid kR0
  have HX0 := Lib.hid hX0
  clear h kR kA0 kR0 hX0
  have HE := Lib.hid he
  have hst := rdNum_len s
  clear he
  go_enter Try.func29, Try.ntmps29
  go_wp2_with fail
  refine (rd_Left H0.out).mono ?_
  rintro x wz ⟨rfl, rfl⟩
  go_wp2_with fail
  refine (rd_Err H0.out).mono ?_
  rintro x wz ⟨rfl, rfl⟩
  rw [HE.out]
  go_wp2_with fail
  refine (rd_Num H0.out hle).mono ?_
  rintro x w1 ⟨rfl, hr, hX⟩
  have HX1 := Lib.hid ((Ext.of_below (fun k => k = a) HX0.out).trans hX)
  have H1 := Lib.hid hr
  have kR1 := Blk.ext HR.out hX hga
  obtain ⟨r2, r3, hz2⟩ := kR1.c1
  clear hr hX kR1
  go_wp2_with fail
  go_ret
  exact ⟨(rdNum s).2, rfl, H1.out, hst, fun h => absurd HE.out h, HX1.out⟩

set_option maxHeartbeats 1600000 in
theorem ask_0_err {w : World} {lo a g : Nat} {s : RS} {most n : Int} (h : RdAt w lo a s) (hle : lo ≤ a) (hm : most ≤ 9223372036854775807) (hb : s.b.length ≤ 200000000000000) (kR : Blk w g 42 #[.pointer (some ⟨a, 0, none⟩)]) (hga : g ≠ a) (he : s.e ≠ 0) :
    Calls Try.prog 29 #[.agg #[.int .i64 0, .int .i64 most, .int .u64 n], .pointer (some ⟨g, 0, none⟩)] w (Asked w lo a s) := by
  have hX0 := (Below.refl w.heap.size w).alloc (Nat.le_refl _) (.cells #[.int .i64 0, .int .i64 most, .int .u64 n] 53)
  have H0 := Lib.hid (h.below hX0)
  have kR0 := kR.below hX0
  have kA0 := Blk.new w 53 #[.int .i64 0, .int .i64 most, .int .u64 n]
  have hal := h.lt
  obtain ⟨m0, m1, m2, f0, f1, f2, hz⟩ := kA0.c3
  obtain ⟨r0, r1, hz1⟩ := kR0.c1
  have HA := Lib.hid kA0
  have HR := Lib.hid kR0
  have HX0 := Lib.hid hX0
  clear h kR kA0 kR0 hX0
  have HE := Lib.hid he
  have tE : (s.e == 0) = false := by simpa using he
  have tE2 : (s.e == s.e) = true := by simp
  have hlf := rdLeft_err he
  clear he
  go_enter Try.func29, Try.ntmps29
  go_wp2_with fail
  refine (rd_Left H0.out).mono ?_
  rintro x wz ⟨rfl, rfl⟩
  rw [hlf]
  go_wp2_with fail
  refine (rd_Err H0.out).mono ?_
  rintro x wz ⟨rfl, rfl⟩
  go_wp2_with fail
  refine (rd_Num H0.out hle).mono ?_
  rintro x w1 ⟨rfl, hr, hX⟩
  have hst : (rdNum s).2 = s := by rw [rdNum_err HE.out]
  rw [hst] at hr
  clear hst
  rw [show (rdNum s).1 = 0 from by rw [rdNum_err HE.out]]
  have HX1 := Lib.hid ((Ext.of_below (fun k => k = a) HX0.out).trans hX)
  have H1 := Lib.hid hr
  have kR1 := Blk.ext HR.out hX hga
  obtain ⟨r2, r3, hz2⟩ := kR1.c1
  clear hr hX kR1
  go_wp2_with fail
  refine (rd_Err H1.out).mono ?_
  rintro x wz ⟨rfl, rfl⟩
  go_wp2_with fail
  refine (rd_Left H1.out).mono ?_
  rintro x wz ⟨rfl, rfl⟩
  rw [hlf]
  go_wp2_with fail
  go_ret
  exact ⟨s, rfl, H1.out, Nat.le_refl _, fun _ => rfl, HX1.out⟩

set_option maxHeartbeats 1600000 in
theorem ask_1_ok {w : World} {lo a g : Nat} {s : RS} {most n : Int} (h : RdAt w lo a s) (hle : lo ≤ a) (hm : most ≤ 9223372036854775807) (hb : s.b.length ≤ 200000000000000) (kR : Blk w g 42 #[.pointer (some ⟨a, 0, none⟩)]) (hga : g ≠ a) (he : s.e = 0) :
    Calls Try.prog 29 #[.agg #[.int .i64 1, .int .i64 most, .int .u64 n], .pointer (some ⟨g, 0, none⟩)] w (Asked w lo a s) := by
  have hX0 := (Below.refl w.heap.size w).alloc (Nat.le_refl _) (.cells #[.int .i64 1, .int .i64 most, .int .u64 n] 53)
  have H0 := Lib.hid (h.below hX0)
  have kR0 := kR.below hX0
  have kA0 := Blk.new w 53 #[.int .i64 1, .int .i64 most, .int .u64 n]
  have hal := h.lt
  obtain ⟨m0, m1, m2, f0, f1, f2, hz⟩ := kA0.c3
  obtain ⟨r0, r1, hz1⟩ := kR0.c1
  have HA := Lib.hid kA0
  have HR := Lib.hid kR0
  have HX0 := Lib.hid hX0
  clear h kR kA0 kR0 hX0
  have HE := Lib.hid he
  have hst := rdNum_len s
  clear he
  go_enter Try.func29, Try.ntmps29
  go_wp2_with fail
  refine (rd_Left H0.out).mono ?_
  rintro x wz ⟨rfl, rfl⟩
  go_wp2_with fail
  refine (rd_Err H0.out).mono ?_
  rintro x wz ⟨rfl, rfl⟩
  rw [HE.out]
  go_wp2_with fail
  refine (rd_Int H0.out hle).mono ?_
  rintro x w1 ⟨rfl, hr, hX⟩
  have HX1 := Lib.hid ((Ext.of_below (fun k => k = a) HX0.out).trans hX)
  have H1 := Lib.hid hr
  have kR1 := Blk.ext HR.out hX hga
  obtain ⟨r2, r3, hz2⟩ := kR1.c1
  clear hr hX kR1
  go_wp2_with fail
  go_ret
  exact ⟨(rdInt s).2, rfl, H1.out, hst, fun h => absurd HE.out h, HX1.out⟩

set_option maxHeartbeats 1600000 in
theorem ask_1_err {w : World} {lo a g : Nat} {s : RS} {most n : Int} (h : RdAt w lo a s) (hle : lo ≤ a) (hm : most ≤ 9223372036854775807) (hb : s.b.length ≤ 200000000000000) (kR : Blk w g 42 #[.pointer (some ⟨a, 0, none⟩)]) (hga : g ≠ a) (he : s.e ≠ 0) :
    Calls Try.prog 29 #[.agg #[.int .i64 1, .int .i64 most, .int .u64 n], .pointer (some ⟨g, 0, none⟩)] w (Asked w lo a s) := by
  have hX0 := (Below.refl w.heap.size w).alloc (Nat.le_refl _) (.cells #[.int .i64 1, .int .i64 most, .int .u64 n] 53)
  have H0 := Lib.hid (h.below hX0)
  have kR0 := kR.below hX0
  have kA0 := Blk.new w 53 #[.int .i64 1, .int .i64 most, .int .u64 n]
  have hal := h.lt
  obtain ⟨m0, m1, m2, f0, f1, f2, hz⟩ := kA0.c3
  obtain ⟨r0, r1, hz1⟩ := kR0.c1
  have HA := Lib.hid kA0
  have HR := Lib.hid kR0
  have HX0 := Lib.hid hX0
  clear h kR kA0 kR0 hX0
  have HE := Lib.hid he
  have tE : (s.e == 0) = false := by simpa using he
  have tE2 : (s.e == s.e) = true := by simp
  have hlf := rdLeft_err he
  clear he
  go_enter Try.func29, Try.ntmps29
  go_wp2_with fail
  refine (rd_Left H0.out).mono ?_
  rintro x wz ⟨rfl, rfl⟩
  rw [hlf]
  go_wp2_with fail
  refine (rd_Err H0.out).mono ?_
  rintro x wz ⟨rfl, rfl⟩
  go_wp2_with fail
  refine (rd_Int H0.out hle).mono ?_
  rintro x w1 ⟨rfl, hr, hX⟩
  have hst : (rdInt s).2 = s := by rw [rdInt_err HE.out]
  rw [hst] at hr
  clear hst
  rw [show (rdInt s).1 = 0 from by rw [rdInt_err HE.out]]
  have HX1 := Lib.hid ((Ext.of_below (fun k => k = a) HX0.out).trans hX)
  have H1 := Lib.hid hr
  have kR1 := Blk.ext HR.out hX hga
  obtain ⟨r2, r3, hz2⟩ := kR1.c1
  clear hr hX kR1
  go_wp2_with fail
  refine (rd_Err H1.out).mono ?_
  rintro x wz ⟨rfl, rfl⟩
  go_wp2_with fail
  refine (rd_Left H1.out).mono ?_
  rintro x wz ⟨rfl, rfl⟩
  rw [hlf]
  go_wp2_with fail
  go_ret
  exact ⟨s, rfl, H1.out, Nat.le_refl _, fun _ => rfl, HX1.out⟩

set_option maxHeartbeats 1600000 in
theorem ask_2_ok {w : World} {lo a g : Nat} {s : RS} {most n : Int} (h : RdAt w lo a s) (hle : lo ≤ a) (hm : most ≤ 9223372036854775807) (hb : s.b.length ≤ 200000000000000) (kR : Blk w g 42 #[.pointer (some ⟨a, 0, none⟩)]) (hga : g ≠ a) (he : s.e = 0) :
    Calls Try.prog 29 #[.agg #[.int .i64 2, .int .i64 most, .int .u64 n], .pointer (some ⟨g, 0, none⟩)] w (Asked w lo a s) := by
  have hX0 := (Below.refl w.heap.size w).alloc (Nat.le_refl _) (.cells #[.int .i64 2, .int .i64 most, .int .u64 n] 53)
  have H0 := Lib.hid (h.below hX0)
  have kR0 := kR.below hX0
  have kA0 := Blk.new w 53 #[.int .i64 2, .int .i64 most, .int .u64 n]
  have hal := h.lt
  obtain ⟨m0, m1, m2, f0, f1, f2, hz⟩ := kA0.c3
  obtain ⟨r0, r1, hz1⟩ := kR0.c1
  have HA := Lib.hid kA0
  have HR := Lib.hid kR0
  have HX0 := Lib.hid hX0
  clear h kR kA0 kR0 hX0
  have HE := Lib.hid he
  have hst := rdBool_len s
  clear he
  go_enter Try.func29, Try.ntmps29
  go_wp2_with fail
  refine (rd_Left H0.out).mono ?_
  rintro x wz ⟨rfl, rfl⟩
  go_wp2_with fail
  refine (rd_Err H0.out).mono ?_
  rintro x wz ⟨rfl, rfl⟩
  rw [HE.out]
  go_wp2_with fail
  refine (rd_Bool H0.out hle).mono ?_
  rintro x w1 ⟨rfl, hr, hX⟩
  have HX1 := Lib.hid ((Ext.of_below (fun k => k = a) HX0.out).trans hX)
  have H1 := Lib.hid hr
  have kR1 := Blk.ext HR.out hX hga
  obtain ⟨r2, r3, hz2⟩ := kR1.c1
  clear hr hX kR1
  go_wp2_with fail
  go_ret
  exact ⟨(rdBool s).2, rfl, H1.out, hst, fun h => absurd HE.out h, HX1.out⟩

set_option maxHeartbeats 1600000 in
theorem ask_2_err {w : World} {lo a g : Nat} {s : RS} {most n : Int} (h : RdAt w lo a s) (hle : lo ≤ a) (hm : most ≤ 9223372036854775807) (hb : s.b.length ≤ 200000000000000) (kR : Blk w g 42 #[.pointer (some ⟨a, 0, none⟩)]) (hga : g ≠ a) (he : s.e ≠ 0) :
    Calls Try.prog 29 #[.agg #[.int .i64 2, .int .i64 most, .int .u64 n], .pointer (some ⟨g, 0, none⟩)] w (Asked w lo a s) := by
  have hX0 := (Below.refl w.heap.size w).alloc (Nat.le_refl _) (.cells #[.int .i64 2, .int .i64 most, .int .u64 n] 53)
  have H0 := Lib.hid (h.below hX0)
  have kR0 := kR.below hX0
  have kA0 := Blk.new w 53 #[.int .i64 2, .int .i64 most, .int .u64 n]
  have hal := h.lt
  obtain ⟨m0, m1, m2, f0, f1, f2, hz⟩ := kA0.c3
  obtain ⟨r0, r1, hz1⟩ := kR0.c1
  have HA := Lib.hid kA0
  have HR := Lib.hid kR0
  have HX0 := Lib.hid hX0
  clear h kR kA0 kR0 hX0
  have HE := Lib.hid he
  have tE : (s.e == 0) = false := by simpa using he
  have tE2 : (s.e == s.e) = true := by simp
  have hlf := rdLeft_err he
  clear he
  go_enter Try.func29, Try.ntmps29
  go_wp2_with fail
  refine (rd_Left H0.out).mono ?_
  rintro x wz ⟨rfl, rfl⟩
  rw [hlf]
  go_wp2_with fail
  refine (rd_Err H0.out).mono ?_
  rintro x wz ⟨rfl, rfl⟩
  go_wp2_with fail
  refine (rd_Bool H0.out hle).mono ?_
  rintro x w1 ⟨rfl, hr, hX⟩
  have hst : (rdBool s).2 = s := by rw [rdBool_err HE.out]
  rw [hst] at hr
  clear hst
  rw [show (rdBool s).1 = false from by rw [rdBool_err HE.out]]
  have HX1 := Lib.hid ((Ext.of_below (fun k => k = a) HX0.out).trans hX)
  have H1 := Lib.hid hr
  have kR1 := Blk.ext HR.out hX hga
  obtain ⟨r2, r3, hz2⟩ := kR1.c1
  clear hr hX kR1
  go_wp2_with fail
  refine (rd_Err H1.out).mono ?_
  rintro x wz ⟨rfl, rfl⟩
  go_wp2_with fail
  refine (rd_Left H1.out).mono ?_
  rintro x wz ⟨rfl, rfl⟩
  rw [hlf]
  go_wp2_with fail
  go_ret
  exact ⟨s, rfl, H1.out, Nat.le_refl _, fun _ => rfl, HX1.out⟩

set_option maxHeartbeats 1600000 in
theorem ask_3_ok {w : World} {lo a g : Nat} {s : RS} {most n : Int} (h : RdAt w lo a s) (hle : lo ≤ a) (hm : most ≤ 9223372036854775807) (hb : s.b.length ≤ 200000000000000) (kR : Blk w g 42 #[.pointer (some ⟨a, 0, none⟩)]) (hga : g ≠ a) (he : s.e = 0) :
    Calls Try.prog 29 #[.agg #[.int .i64 3, .int .i64 most, .int .u64 n], .pointer (some ⟨g, 0, none⟩)] w (Asked w lo a s) := by
  have hX0 := (Below.refl w.heap.size w).alloc (Nat.le_refl _) (.cells #[.int .i64 3, .int .i64 most, .int .u64 n] 53)
  have H0 := Lib.hid (h.below hX0)
  have kR0 := kR.below hX0
  have kA0 := Blk.new w 53 #[.int .i64 3, .int .i64 most, .int .u64 n]
  have hal := h.lt
  obtain ⟨m0, m1, m2, f0, f1, f2, hz⟩ := kA0.c3
  obtain ⟨r0, r1, hz1⟩ := kR0.c1
  have HA := Lib.hid kA0
  have HR := Lib.hid kR0
  have HX0 := Lib.hid hX0
  clear h kR kA0 kR0 hX0
  have HE := Lib.hid he
  have hst := rdBytes_len s most
  clear he
  go_enter Try.func29, Try.ntmps29
  go_wp2_with fail
  refine (rd_Left H0.out).mono ?_
  rintro x wz ⟨rfl, rfl⟩
  go_wp2_with fail
  refine (rd_Err H0.out).mono ?_
  rintro x wz ⟨rfl, rfl⟩
  rw [HE.out]
  go_wp2_with fail
  refine (rd_Bytes (most := most) H0.out hle hm hb).mono ?_
  rintro x w1 ⟨vx, rfl, ho, hr, hX⟩
  obtain ⟨px, cx, rfl⟩ := ho.slice
  clear ho
  have HX1 := Lib.hid ((Ext.of_below (fun k => k = a) HX0.out).trans hX)
  have H1 := Lib.hid hr
  have kR1 := Blk.ext HR.out hX hga
  obtain ⟨r2, r3, hz2⟩ := kR1.c1
  clear hr hX kR1
  go_wp2_with fail
  go_ret
  exact ⟨(rdBytes s most).2, rfl, H1.out, hst, fun h => absurd HE.out h, HX1.out⟩

set_option maxHeartbeats 1600000 in
theorem ask_3_err {w : World} {lo a g : Nat} {s : RS} {most n : Int} (h : RdAt w lo a s) (hle : lo ≤ a) (hm : most ≤ 9223372036854775807) (hb : s.b.length ≤ 200000000000000) (kR : Blk w g 42 #[.pointer (some ⟨a, 0, none⟩)]) (hga : g ≠ a) (he : s.e ≠ 0) :
    Calls Try.prog 29 #[.agg #[.int .i64 3, .int .i64 most, .int .u64 n], .pointer (some ⟨g, 0, none⟩)] w (Asked w lo a s) := by
  have hX0 := (Below.refl w.heap.size w).alloc (Nat.le_refl _) (.cells #[.int .i64 3, .int .i64 most, .int .u64 n] 53)
  have H0 := Lib.hid (h.below hX0)
  have kR0 := kR.below hX0
  have kA0 := Blk.new w 53 #[.int .i64 3, .int .i64 most, .int .u64 n]
  have hal := h.lt
  obtain ⟨m0, m1, m2, f0, f1, f2, hz⟩ := kA0.c3
  obtain ⟨r0, r1, hz1⟩ := kR0.c1
  have HA := Lib.hid kA0
  have HR := Lib.hid kR0
  have HX0 := Lib.hid hX0
  clear h kR kA0 kR0 hX0
  have HE := Lib.hid he
  have tE : (s.e == 0) = false := by simpa using he
  have tE2 : (s.e == s.e) = true := by simp
  have hlf := rdLeft_err he
  clear he
  go_enter Try.func29, Try.ntmps29
  go_wp2_with fail
  refine (rd_Left H0.out).mono ?_
  rintro x wz ⟨rfl, rfl⟩
  rw [hlf]
  go_wp2_with fail
  refine (rd_Err H0.out).mono ?_
  rintro x wz ⟨rfl, rfl⟩
  go_wp2_with fail
  refine (rd_Bytes (most := most) H0.out hle hm hb).mono ?_
  rintro x w1 ⟨vx, rfl, ho, hr, hX⟩
  obtain ⟨px, cx, rfl⟩ := ho.slice
  clear ho
  have hst : (rdBytes s most).2 = s := by rw [rdBytes_err HE.out]
  rw [hst] at hr
  clear hst
  rw [show (rdBytes s most).1 = [] from by rw [rdBytes_err HE.out]]
  have HX1 := Lib.hid ((Ext.of_below (fun k => k = a) HX0.out).trans hX)
  have H1 := Lib.hid hr
  have kR1 := Blk.ext HR.out hX hga
  obtain ⟨r2, r3, hz2⟩ := kR1.c1
  clear hr hX kR1
  go_wp2_with fail
  refine (rd_Err H1.out).mono ?_
  rintro x wz ⟨rfl, rfl⟩
  go_wp2_with fail
  refine (rd_Left H1.out).mono ?_
  rintro x wz ⟨rfl, rfl⟩
  rw [hlf]
  go_wp2_with fail
  go_ret
  exact ⟨s, rfl, H1.out, Nat.le_refl _, fun _ => rfl, HX1.out⟩

set_option maxHeartbeats 1600000 in
theorem ask_4_ok {w : World} {lo a g : Nat} {s : RS} {most n : Int} (h : RdAt w lo a s) (hle : lo ≤ a) (hm : most ≤ 9223372036854775807) (hb : s.b.length ≤ 200000000000000) (kR : Blk w g 42 #[.pointer (some ⟨a, 0, none⟩)]) (hga : g ≠ a) (he : s.e = 0) :
    Calls Try.prog 29 #[.agg #[.int .i64 4, .int .i64 most, .int .u64 n], .pointer (some ⟨g, 0, none⟩)] w (Asked w lo a s) := by
  have hX0 := (Below.refl w.heap.size w).alloc (Nat.le_refl _) (.cells #[.int .i64 4, .int .i64 most, .int .u64 n] 53)
  have H0 := Lib.hid (h.below hX0)
  have kR0 := kR.below hX0
  have kA0 := Blk.new w 53 #[.int .i64 4, .int .i64 most, .int .u64 n]
  have hal := h.lt
  obtain ⟨m0, m1, m2, f0, f1, f2, hz⟩ := kA0.c3
  obtain ⟨r0, r1, hz1⟩ := kR0.c1
  have HA := Lib.hid kA0
  have HR := Lib.hid kR0
  have HX0 := Lib.hid hX0
  clear h kR kA0 kR0 hX0
  have HE := Lib.hid he
  have hst := rdBytes_len s most
  clear he
  go_enter Try.func29, Try.ntmps29
  go_wp2_with fail
  refine (rd_Left H0.out).mono ?_
  rintro x wz ⟨rfl, rfl⟩
  go_wp2_with fail
  refine (rd_Err H0.out).mono ?_
  rintro x wz ⟨rfl, rfl⟩
  rw [HE.out]
  go_wp2_with fail
  refine (rd_Str (most := most) H0.out hle hm hb).mono ?_
  rintro x w1 ⟨rfl, hr, hX⟩
  have HX1 := Lib.hid ((Ext.of_below (fun k => k = a) HX0.out).trans hX)
  have H1 := Lib.hid hr
  have kR1 := Blk.ext HR.out hX hga
  obtain ⟨r2, r3, hz2⟩ := kR1.c1
  clear hr hX kR1
  go_wp2_with fail
  go_ret
  exact ⟨(rdBytes s most).2, rfl, H1.out, hst, fun h => absurd HE.out h, HX1.out⟩

set_option maxHeartbeats 1600000 in
theorem ask_4_err {w : World} {lo a g : Nat} {s : RS} {most n : Int} (h : RdAt w lo a s) (hle : lo ≤ a) (hm : most ≤ 9223372036854775807) (hb : s.b.length ≤ 200000000000000) (kR : Blk w g 42 #[.pointer (some ⟨a, 0, none⟩)]) (hga : g ≠ a) (he : s.e ≠ 0) :
    Calls Try.prog 29 #[.agg #[.int .i64 4, .int .i64 most, .int .u64 n], .pointer (some ⟨g, 0, none⟩)] w (Asked w lo a s) := by
  have hX0 := (Below.refl w.heap.size w).alloc (Nat.le_refl _) (.cells #[.int .i64 4, .int .i64 most, .int .u64 n] 53)
  have H0 := Lib.hid (h.below hX0)
  have kR0 := kR.below hX0
  have kA0 := Blk.new w 53 #[.int .i64 4, .int .i64 most, .int .u64 n]
  have hal := h.lt
  obtain ⟨m0, m1, m2, f0, f1, f2, hz⟩ := kA0.c3
  obtain ⟨r0, r1, hz1⟩ := kR0.c1
  have HA := Lib.hid kA0
  have HR := Lib.hid kR0
  have HX0 := Lib.hid hX0
  clear h kR kA0 kR0 hX0
  have HE := Lib.hid he
  have tE : (s.e == 0) = false := by simpa using he
  have tE2 : (s.e == s.e) = true := by simp
  have hlf := rdLeft_err he
  clear he
  go_enter Try.func29, Try.ntmps29
  go_wp2_with fail
  refine (rd_Left H0.out).mono ?_
  rintro x wz ⟨rfl, rfl⟩
  rw [hlf]
  go_wp2_with fail
  refine (rd_Err H0.out).mono ?_
  rintro x wz ⟨rfl, rfl⟩
  go_wp2_with fail
  refine (rd_Str (most := most) H0.out hle hm hb).mono ?_
  rintro x w1 ⟨rfl, hr, hX⟩
  have hst : (rdBytes s most).2 = s := by rw [rdBytes_err HE.out]
  rw [hst] at hr
  clear hst
  rw [show (rdBytes s most).1 = [] from by rw [rdBytes_err HE.out]]
  have HX1 := Lib.hid ((Ext.of_below (fun k => k = a) HX0.out).trans hX)
  have H1 := Lib.hid hr
  have kR1 := Blk.ext HR.out hX hga
  obtain ⟨r2, r3, hz2⟩ := kR1.c1
  clear hr hX kR1
  go_wp2_with fail
  refine (rd_Err H1.out).mono ?_
  rintro x wz ⟨rfl, rfl⟩
  go_wp2_with fail
  refine (rd_Left H1.out).mono ?_
  rintro x wz ⟨rfl, rfl⟩
  rw [hlf]
  go_wp2_with fail
  go_ret
  exact ⟨s, rfl, H1.out, Nat.le_refl _, fun _ => rfl, HX1.out⟩

set_option maxHeartbeats 1600000 in
theorem ask_5_ok {w : World} {lo a g : Nat} {s : RS} {most n : Int} (h : RdAt w lo a s) (hle : lo ≤ a) (hm : most ≤ 9223372036854775807) (hb : s.b.length ≤ 200000000000000) (kR : Blk w g 42 #[.pointer (some ⟨a, 0, none⟩)]) (hga : g ≠ a) (he : s.e = 0) :
    Calls Try.prog 29 #[.agg #[.int .i64 5, .int .i64 most, .int .u64 n], .pointer (some ⟨g, 0, none⟩)] w (Asked w lo a s) := by
  have hX0 := (Below.refl w.heap.size w).alloc (Nat.le_refl _) (.cells #[.int .i64 5, .int .i64 most, .int .u64 n] 53)
  have H0 := Lib.hid (h.below hX0)
  have kR0 := kR.below hX0
  have kA0 := Blk.new w 53 #[.int .i64 5, .int .i64 most, .int .u64 n]
  have hal := h.lt
  obtain ⟨m0, m1, m2, f0, f1, f2, hz⟩ := kA0.c3
  obtain ⟨r0, r1, hz1⟩ := kR0.c1
  have HA := Lib.hid kA0
  have HR := Lib.hid kR0
  have HX0 := Lib.hid hX0
  clear h kR kA0 kR0 hX0
  have HE := Lib.hid he
  have hst := rdCount_len s most
  clear he
  go_enter Try.func29, Try.ntmps29
  go_wp2_with fail
  refine (rd_Left H0.out).mono ?_
  rintro x wz ⟨rfl, rfl⟩
  go_wp2_with fail
  refine (rd_Err H0.out).mono ?_
  rintro x wz ⟨rfl, rfl⟩
  rw [HE.out]
  go_wp2_with fail
  refine (rd_Count (most := most) H0.out hle hm).mono ?_
  rintro x w1 ⟨rfl, hr, hX⟩
  have HX1 := Lib.hid ((Ext.of_below (fun k => k = a) HX0.out).trans hX)
  have H1 := Lib.hid hr
  have kR1 := Blk.ext HR.out hX hga
  obtain ⟨r2, r3, hz2⟩ := kR1.c1
  clear hr hX kR1
  go_wp2_with fail
  go_ret
  exact ⟨(rdCount s most).2, rfl, H1.out, hst, fun h => absurd HE.out h, HX1.out⟩

set_option maxHeartbeats 1600000 in
theorem ask_5_err {w : World} {lo a g : Nat} {s : RS} {most n : Int} (h : RdAt w lo a s) (hle : lo ≤ a) (hm : most ≤ 9223372036854775807) (hb : s.b.length ≤ 200000000000000) (kR : Blk w g 42 #[.pointer (some ⟨a, 0, none⟩)]) (hga : g ≠ a) (he : s.e ≠ 0) :
    Calls Try.prog 29 #[.agg #[.int .i64 5, .int .i64 most, .int .u64 n], .pointer (some ⟨g, 0, none⟩)] w (Asked w lo a s) := by
  have hX0 := (Below.refl w.heap.size w).alloc (Nat.le_refl _) (.cells #[.int .i64 5, .int .i64 most, .int .u64 n] 53)
  have H0 := Lib.hid (h.below hX0)
  have kR0 := kR.below hX0
  have kA0 := Blk.new w 53 #[.int .i64 5, .int .i64 most, .int .u64 n]
  have hal := h.lt
  obtain ⟨m0, m1, m2, f0, f1, f2, hz⟩ := kA0.c3
  obtain ⟨r0, r1, hz1⟩ := kR0.c1
  have HA := Lib.hid kA0
  have HR := Lib.hid kR0
  have HX0 := Lib.hid hX0
  clear h kR kA0 kR0 hX0
  have HE := Lib.hid he
  have tE : (s.e == 0) = false := by simpa using he
  have tE2 : (s.e == s.e) = true := by simp
  have hlf := rdLeft_err he
  clear he
  go_enter Try.func29, Try.ntmps29
  go_wp2_with fail
  refine (rd_Left H0.out).mono ?_
  rintro x wz ⟨rfl, rfl⟩
  rw [hlf]
  go_wp2_with fail
  refine (rd_Err H0.out).mono ?_
  rintro x wz ⟨rfl, rfl⟩
  go_wp2_with fail
  refine (rd_Count (most := most) H0.out hle hm).mono ?_
  rintro x w1 ⟨rfl, hr, hX⟩
  have hst : (rdCount s most).2 = s := by rw [rdCount_err HE.out]
  rw [hst] at hr
  clear hst
  rw [show (rdCount s most).1 = 0 from by rw [rdCount_err HE.out]]
  have HX1 := Lib.hid ((Ext.of_below (fun k => k = a) HX0.out).trans hX)
  have H1 := Lib.hid hr
  have kR1 := Blk.ext HR.out hX hga
  obtain ⟨r2, r3, hz2⟩ := kR1.c1
  clear hr hX kR1
  go_wp2_with fail
  refine (rd_Err H1.out).mono ?_
  rintro x wz ⟨rfl, rfl⟩
  go_wp2_with fail
  refine (rd_Left H1.out).mono ?_
  rintro x wz ⟨rfl, rfl⟩
  rw [hlf]
  go_wp2_with fail
  go_ret
  exact ⟨s, rfl, H1.out, Nat.le_refl _, fun _ => rfl, HX1.out⟩

set_option maxHeartbeats 1600000 in
theorem ask_8_ok {w : World} {lo a g : Nat} {s : RS} {most n : Int} (h : RdAt w lo a s) (hle : lo ≤ a) (hm : most ≤ 9223372036854775807) (hb : s.b.length ≤ 200000000000000) (kR : Blk w g 42 #[.pointer (some ⟨a, 0, none⟩)]) (hga : g ≠ a) (he : s.e = 0) :
    Calls Try.prog 29 #[.agg #[.int .i64 8, .int .i64 most, .int .u64 n], .pointer (some ⟨g, 0, none⟩)] w (Asked w lo a s) := by
  have hX0 := (Below.refl w.heap.size w).alloc (Nat.le_refl _) (.cells #[.int .i64 8, .int .i64 most, .int .u64 n] 53)
  have H0 := Lib.hid (h.below hX0)
  have kR0 := kR.below hX0
  have kA0 := Blk.new w 53 #[.int .i64 8, .int .i64 most, .int .u64 n]
  have hal := h.lt
  obtain ⟨m0, m1, m2, f0, f1, f2, hz⟩ := kA0.c3
  obtain ⟨r0, r1, hz1⟩ := kR0.c1
  have HA := Lib.hid kA0
  have HR := Lib.hid kR0
  have HX0 := Lib.hid hX0
  clear h kR kA0 kR0 hX0
  have HE := Lib.hid he
  have hst := rdEnd_len s
  clear he
  go_enter Try.func29, Try.ntmps29
  go_wp2_with fail
  refine (rd_Left H0.out).mono ?_
  rintro x wz ⟨rfl, rfl⟩
  go_wp2_with fail
  refine (rd_Err H0.out).mono ?_
  rintro x wz ⟨rfl, rfl⟩
  rw [HE.out]
  go_wp2_with fail
  refine (rd_End H0.out hle).mono ?_
  rintro x w1 ⟨rfl, hr, hX⟩
  have HX1 := Lib.hid ((Ext.of_below (fun k => k = a) HX0.out).trans hX)
  have H1 := Lib.hid hr
  have kR1 := Blk.ext HR.out hX hga
  obtain ⟨r2, r3, hz2⟩ := kR1.c1
  clear hr hX kR1
  go_wp2_with fail
  go_ret
  exact ⟨(rdEnd s), rfl, H1.out, hst, fun h => absurd HE.out h, HX1.out⟩

set_option maxHeartbeats 1600000 in
theorem ask_8_err {w : World} {lo a g : Nat} {s : RS} {most n : Int} (h : RdAt w lo a s) (hle : lo ≤ a) (hm : most ≤ 9223372036854775807) (hb : s.b.length ≤ 200000000000000) (kR : Blk w g 42 #[.pointer (some ⟨a, 0, none⟩)]) (hga : g ≠ a) (he : s.e ≠ 0) :
    Calls Try.prog 29 #[.agg #[.int .i64 8, .int .i64 most, .int .u64 n], .pointer (some ⟨g, 0, none⟩)] w (Asked w lo a s) := by
  have hX0 := (Below.refl w.heap.size w).alloc (Nat.le_refl _) (.cells #[.int .i64 8, .int .i64 most, .int .u64 n] 53)
  have H0 := Lib.hid (h.below hX0)
  have kR0 := kR.below hX0
  have kA0 := Blk.new w 53 #[.int .i64 8, .int .i64 most, .int .u64 n]
  have hal := h.lt
  obtain ⟨m0, m1, m2, f0, f1, f2, hz⟩ := kA0.c3
  obtain ⟨r0, r1, hz1⟩ := kR0.c1
  have HA := Lib.hid kA0
  have HR := Lib.hid kR0
  have HX0 := Lib.hid hX0
  clear h kR kA0 kR0 hX0
  have HE := Lib.hid he
  have tE : (s.e == 0) = false := by simpa using he
  have tE2 : (s.e == s.e) = true := by simp
  have hlf := rdLeft_err he
  clear he
  go_enter Try.func29, Try.ntmps29
  go_wp2_with fail
  refine (rd_Left H0.out).mono ?_
  rintro x wz ⟨rfl, rfl⟩
  rw [hlf]
  go_wp2_with fail
  refine (rd_Err H0.out).mono ?_
  rintro x wz ⟨rfl, rfl⟩
  go_wp2_with fail
  refine (rd_End H0.out hle).mono ?_
  rintro x w1 ⟨rfl, hr, hX⟩
  have hst : (rdEnd s) = s := by rw [rdEnd_err HE.out]
  rw [hst] at hr
  clear hst
  rw [show rdEnd s = s from rdEnd_err HE.out]
  have HX1 := Lib.hid ((Ext.of_below (fun k => k = a) HX0.out).trans hX)
  have H1 := Lib.hid hr
  have kR1 := Blk.ext HR.out hX hga
  obtain ⟨r2, r3, hz2⟩ := kR1.c1
  clear hr hX kR1
  go_wp2_with fail
  refine (rd_Err H1.out).mono ?_
  rintro x wz ⟨rfl, rfl⟩
  go_wp2_with fail
  refine (rd_Left H1.out).mono ?_
  rintro x wz ⟨rfl, rfl⟩
  rw [hlf]
  go_wp2_with fail
  go_ret
  exact ⟨s, rfl, H1.out, Nat.le_refl _, fun _ => rfl, HX1.out⟩

set_option maxHeartbeats 1600000 in
theorem ask_no_ok {w : World} {lo a g : Nat} {s : RS} {what most n : Int} (h : RdAt w lo a s) (hle : lo ≤ a) (hm : most ≤ 9223372036854775807) (hb : s.b.length ≤ 200000000000000) (kR : Blk w g 42 #[.pointer (some ⟨a, 0, none⟩)]) (hga : g ≠ a) (he : s.e = 0) (hw : what ≠ 0 ∧ what ≠ 1 ∧ what ≠ 2 ∧ what ≠ 3 ∧ what ≠ 4 ∧ what ≠ 5 ∧ what ≠ 8) :
    Calls Try.prog 29 #[.agg #[.int .i64 what, .int .i64 most, .int .u64 n], .pointer (some ⟨g, 0, none⟩)] w (Asked w lo a s) := by
  have t0 : (what == 0) = false := by have := hw; simp; omega
  have t1 : (what == 1) = false := by have := hw; simp; omega
  have t2 : (what == 2) = false := by have := hw; simp; omega
  have t3 : (what == 3) = false := by have := hw; simp; omega
  have t4 : (what == 4) = false := by have := hw; simp; omega
  have t5 : (what == 5) = false := by have := hw; simp; omega
  have t8 : (what == 8) = false := by have := hw; simp; omega
  clear hw
  have hX0 := (Below.refl w.heap.size w).alloc (Nat.le_refl _) (.cells #[.int .i64 what, .int .i64 most, .int .u64 n] 53)
  have H0 := Lib.hid (h.below hX0)
  have kR0 := kR.below hX0
  have kA0 := Blk.new w 53 #[.int .i64 what, .int .i64 most, .int .u64 n]
  have hal := h.lt
  obtain ⟨m0, m1, m2, f0, f1, f2, hz⟩ := kA0.c3
  obtain ⟨r0, r1, hz1⟩ := kR0.c1
  have HA := Lib.hid kA0
  have HR := Lib.hid kR0
  have HX0 := Lib.hid hX0
  clear h kR kA0 kR0 hX0
  have HE := Lib.hid he
  have hst := Nat.le_refl s.b.length
  clear he
  go_enter Try.func29, Try.ntmps29
  go_wp2_with fail
  refine (rd_Left H0.out).mono ?_
  rintro x wz ⟨rfl, rfl⟩
  go_wp2_with fail
  refine (rd_Err H0.out).mono ?_
  rintro x wz ⟨rfl, rfl⟩
  rw [HE.out]
  have HX1 := Lib.hid (Ext.of_below (fun k => k = a) HX0.out)
  have H1 := H0
  have R1 := HR
  go_wp2_with fail
  go_ret
  exact ⟨s, rfl, H1.out, hst, fun h => absurd HE.out h, HX1.out⟩

set_option maxHeartbeats 1600000 in
theorem ask_no_err {w : World} {lo a g : Nat} {s : RS} {what most n : Int} (h : RdAt w lo a s) (hle : lo ≤ a) (hm : most ≤ 9223372036854775807) (hb : s.b.length ≤ 200000000000000) (kR : Blk w g 42 #[.pointer (some ⟨a, 0, none⟩)]) (hga : g ≠ a) (he : s.e ≠ 0) (hw : what ≠ 0 ∧ what ≠ 1 ∧ what ≠ 2 ∧ what ≠ 3 ∧ what ≠ 4 ∧ what ≠ 5 ∧ what ≠ 8) :
    Calls Try.prog 29 #[.agg #[.int .i64 what, .int .i64 most, .int .u64 n], .pointer (some ⟨g, 0, none⟩)] w (Asked w lo a s) := by
  have t0 : (what == 0) = false := by have := hw; simp; omega
  have t1 : (what == 1) = false := by have := hw; simp; omega
  have t2 : (what == 2) = false := by have := hw; simp; omega
  have t3 : (what == 3) = false := by have := hw; simp; omega
  have t4 : (what == 4) = false := by have := hw; simp; omega
  have t5 : (what == 5) = false := by have := hw; simp; omega
  have t8 : (what == 8) = false := by have := hw; simp; omega
  clear hw
  have hX0 := (Below.refl w.heap.size w).alloc (Nat.le_refl _) (.cells #[.int .i64 what, .int .i64 most, .int .u64 n] 53)
  have H0 := Lib.hid (h.below hX0)
  have kR0 := kR.below hX0
  have kA0 := Blk.new w 53 #[.int .i64 what, .int .i64 most, .int .u64 n]
  have hal := h.lt
  obtain ⟨m0, m1, m2, f0, f1, f2, hz⟩ := kA0.c3
  obtain ⟨r0, r1, hz1⟩ := kR0.c1
  have HA := Lib.hid kA0
  have HR := Lib.hid kR0
  have HX0 := Lib.hid hX0
  clear h kR kA0 kR0 hX0
  have HE := Lib.hid he
  have tE : (s.e == 0) = false := by simpa using he
  have tE2 : (s.e == s.e) = true := by simp
  have hlf := rdLeft_err he
  clear he
  go_enter Try.func29, Try.ntmps29
  go_wp2_with fail
  refine (rd_Left H0.out).mono ?_
  rintro x wz ⟨rfl, rfl⟩
  rw [hlf]
  go_wp2_with fail
  refine (rd_Err H0.out).mono ?_
  rintro x wz ⟨rfl, rfl⟩
  have HX1 := Lib.hid (Ext.of_below (fun k => k = a) HX0.out)
  have H1 := H0
  have R1 := HR
  go_wp2_with fail
  refine (rd_Err H1.out).mono ?_
  rintro x wz ⟨rfl, rfl⟩
  go_wp2_with fail
  refine (rd_Left H1.out).mono ?_
  rintro x wz ⟨rfl, rfl⟩
  rw [hlf]
  go_wp2_with fail
  go_ret
  exact ⟨s, rfl, H1.out, Nat.le_refl _, fun _ => rfl, HX1.out⟩

theorem ask_any {w : World} {lo a g : Nat} {s : RS} {what most n : Int} (h : RdAt w lo a s) (hle : lo ≤ a) (hm : most ≤ 9223372036854775807) (hb : s.b.length ≤ 200000000000000) (kR : Blk w g 42 #[.pointer (some ⟨a, 0, none⟩)]) (hga : g ≠ a) :
    Calls Try.prog 29 #[.agg #[.int .i64 what, .int .i64 most, .int .u64 n], .pointer (some ⟨g, 0, none⟩)] w (Asked w lo a s) := by
  by_cases he : s.e = 0
  · by_cases h0 : what = 0
    · subst h0; exact ask_0_ok h hle hm hb kR hga he
    by_cases h1 : what = 1
    · subst h1; exact ask_1_ok h hle hm hb kR hga he
    by_cases h2 : what = 2
    · subst h2; exact ask_2_ok h hle hm hb kR hga he
    by_cases h3 : what = 3
    · subst h3; exact ask_3_ok h hle hm hb kR hga he
    by_cases h4 : what = 4
    · subst h4; exact ask_4_ok h hle hm hb kR hga he
    by_cases h5 : what = 5
    · subst h5; exact ask_5_ok h hle hm hb kR hga he
    by_cases h8 : what = 8
    · subst h8; exact ask_8_ok h hle hm hb kR hga he
    exact ask_no_ok h hle hm hb kR hga he ⟨h0, h1, h2, h3, h4, h5, h8⟩
  · by_cases h0 : what = 0
    · subst h0; exact ask_0_err h hle hm hb kR hga he
    by_cases h1 : what = 1
    · subst h1; exact ask_1_err h hle hm hb kR hga he
    by_cases h2 : what = 2
    · subst h2; exact ask_2_err h hle hm hb kR hga he
    by_cases h3 : what = 3
    · subst h3; exact ask_3_err h hle hm hb kR hga he
    by_cases h4 : what = 4
    · subst h4; exact ask_4_err h hle hm hb kR hga he
    by_cases h5 : what = 5
    · subst h5; exact ask_5_err h hle hm hb kR hga he
    by_cases h8 : what = 8
    · subst h8; exact ask_8_err h hle hm hb kR hga he
    exact ask_no_err h hle hm hb kR hga he ⟨h0, h1, h2, h3, h4, h5, h8⟩
end Go.Proofs.Ytgmlgdfgooacbaa
