/-
  WireKnown: it returns true. A closed statement: no condition. (Printed by wip/gen_wknown.py.)
-/
import Derived.Test.YtgmlgdfgooacbaaRows
import Derived.Test.YtgmlgdfgooacbaaNil03
import Derived.Test.YtgmlgdfgooacbaaWake03
import Derived.Test.YtgmlgdfgooacbaaOpenB
import Derived.Carry
namespace Go.Proofs.Ytgmlgdfgooacbaa
open Go.RowKit Go.ChangeShapes Go.WideShapes Go.ChangeAt Go.Deep
set_option linter.unusedSimpArgs false
set_option linter.unusedVariables false

theorem k1 : rdBool ⟨[2], 0⟩ = (false, ⟨[], 5⟩) := by rfl
theorem k2 : rdBytes ⟨[5, 97], 0⟩ 9 = ([], ⟨[97], 4⟩) := by rfl
theorem k3 : rdBytes ⟨[1, 97], 0⟩ (-1) = ([], ⟨[97], 3⟩) := by rfl
theorem k4 : rdBytes ⟨[0], 0⟩ (-1) = ([], ⟨[], 0⟩) := by rfl
theorem k5 : rdNum ⟨[], 20⟩ = (0, ⟨[], 20⟩) := by rfl
theorem k6 : rdEnd ⟨[], 0⟩ = ⟨[], 0⟩ := by rfl

theorem empty_own {w : World} {base : Nat} {v : Value} (h : CmdOwn w base v []) : ∃ p c, v = .slice p 0 c := h.slice

set_option maxHeartbeats 12000000 in
set_option maxRecDepth 100000 in
theorem known_walk {w : World} : Calls Try.prog 6 #[] w fun x w' => x = .returned (.bool true) ∧ Below w.heap.size w w' := by
  have hw0 : Below w.heap.size w w := Below.refl _ _
  have HW := Lib.hid hw0
  clear hw0
  go_enter Try.func6, Try.ntmps6
  go_wp2_with fail
  refine (awake_true).mono ?_
  rintro x w1 ⟨rfl, hX⟩
  have HW := Lib.hid (HW.out.trans (hX.mono HW.out.size))
  clear hX
  go_wp2_with fail
  have hk := (Below.refl w1.heap.size w1).alloc (Nat.le_refl _) (.cells #[.int .u8 2] 5)
  obtain ⟨la, hla⟩ : ∃ n, (w1.alloc (.cells #[.int .u8 2] 5)).heap.size = n := ⟨_, rfl⟩
  have hla' : w.heap.size ≤ la := by rw [← hla]; exact Nat.le_trans HW.out.size hk.size
  refine (rd_New (show CmdRd (w1.alloc (.cells #[.int .u8 2] 5)) (fun k => k = w1.heap.size) (.slice (some ⟨w1.heap.size, 0, none⟩) 1 1) [2] from rd_new (bs := [2]) rfl (by unfold maxLen; decide)) (by decide)).mono ?_
  rintro x w2 ⟨aa, rfl, hr, hlaa, -, hX0⟩
  have hX := hk.trans (hX0.mono hk.size)
  rw [hla] at hr hlaa
  have HW := Lib.hid (HW.out.trans (hX.mono HW.out.size))
  have Ha := Lib.hid hr
  clear hX hX0 hk hr hla
  go_wp2_with fail
  refine (rd_Bool Ha.out hlaa).mono ?_
  rintro x w3 ⟨rfl, hr, hX⟩
  rw [k1] at hr
  rw [k1]
  have HW := Lib.hid (Ext.from HW.out hX (fun k e => by have : k = aa := e; omega))
  have Ha := Lib.hid hr
  clear hX hr
  go_wp2_with fail
  have hk := (Below.refl w3.heap.size w3).alloc (Nat.le_refl _) (.cells #[.int .u8 5, .int .u8 97] 5)
  obtain ⟨lb, hlb⟩ : ∃ n, (w3.alloc (.cells #[.int .u8 5, .int .u8 97] 5)).heap.size = n := ⟨_, rfl⟩
  have hlb' : w.heap.size ≤ lb := by rw [← hlb]; exact Nat.le_trans HW.out.size hk.size
  have hdab : aa < lb := by rw [← hlb]; exact Nat.lt_of_lt_of_le Ha.out.lt hk.size
  refine (rd_New (show CmdRd (w3.alloc (.cells #[.int .u8 5, .int .u8 97] 5)) (fun k => k = w3.heap.size) (.slice (some ⟨w3.heap.size, 0, none⟩) 2 2) [5, 97] from rd_new (bs := [5, 97]) rfl (by unfold maxLen; decide)) (by decide)).mono ?_
  rintro x w4 ⟨ab, rfl, hr, hlab, -, hX0⟩
  have hX := hk.trans (hX0.mono hk.size)
  rw [hlb] at hr hlab
  have HW := Lib.hid (HW.out.trans (hX.mono HW.out.size))
  have Ha := Lib.hid (Ha.out.below hX)
  have Hb := Lib.hid hr
  clear hX hX0 hk hr hlb
  go_wp2_with fail
  refine (rd_Bytes (most := 9) Hb.out hlab (by decide) (by decide)).mono ?_
  rintro x w5 ⟨vx, rfl, ho, hr, hX⟩
  rw [k2] at hr
  rw [k2] at ho
  obtain ⟨pb, cb, rfl⟩ := empty_own ho
  clear ho
  have HW := Lib.hid (Ext.from HW.out hX (fun k e => by have : k = ab := e; omega))
  have Ha := Lib.hid (Ha.out.ext hX (fun k h1 h2 e => by have : k = ab := e; omega) hlaa)
  have Hb := Lib.hid hr
  clear hX hr
  go_wp2_with fail
  have hk := (Below.refl w5.heap.size w5).alloc (Nat.le_refl _) (.cells #[.int .u8 1, .int .u8 97] 5)
  obtain ⟨lc, hlc⟩ : ∃ n, (w5.alloc (.cells #[.int .u8 1, .int .u8 97] 5)).heap.size = n := ⟨_, rfl⟩
  have hlc' : w.heap.size ≤ lc := by rw [← hlc]; exact Nat.le_trans HW.out.size hk.size
  have hdac : aa < lc := by rw [← hlc]; exact Nat.lt_of_lt_of_le Ha.out.lt hk.size
  have hdbc : ab < lc := by rw [← hlc]; exact Nat.lt_of_lt_of_le Hb.out.lt hk.size
  refine (rd_New (show CmdRd (w5.alloc (.cells #[.int .u8 1, .int .u8 97] 5)) (fun k => k = w5.heap.size) (.slice (some ⟨w5.heap.size, 0, none⟩) 2 2) [1, 97] from rd_new (bs := [1, 97]) rfl (by unfold maxLen; decide)) (by decide)).mono ?_
  rintro x w6 ⟨ac, rfl, hr, hlac, -, hX0⟩
  have hX := hk.trans (hX0.mono hk.size)
  rw [hlc] at hr hlac
  have HW := Lib.hid (HW.out.trans (hX.mono HW.out.size))
  have Ha := Lib.hid (Ha.out.below hX)
  have Hb := Lib.hid (Hb.out.below hX)
  have Hc := Lib.hid hr
  clear hX hX0 hk hr hlc
  go_wp2_with fail
  refine (rd_Bytes (most := -1) Hc.out hlac (by decide) (by decide)).mono ?_
  rintro x w7 ⟨vx, rfl, ho, hr, hX⟩
  rw [k3] at hr
  rw [k3] at ho
  obtain ⟨pc, cc, rfl⟩ := empty_own ho
  clear ho
  have HW := Lib.hid (Ext.from HW.out hX (fun k e => by have : k = ac := e; omega))
  have Ha := Lib.hid (Ha.out.ext hX (fun k h1 h2 e => by have : k = ac := e; omega) hlaa)
  have Hb := Lib.hid (Hb.out.ext hX (fun k h1 h2 e => by have : k = ac := e; omega) hlab)
  have Hc := Lib.hid hr
  clear hX hr
  go_wp2_with fail
  have hk := (Below.refl w7.heap.size w7).alloc (Nat.le_refl _) (.cells #[.int .u8 0] 5)
  obtain ⟨ld, hld⟩ : ∃ n, (w7.alloc (.cells #[.int .u8 0] 5)).heap.size = n := ⟨_, rfl⟩
  have hld' : w.heap.size ≤ ld := by rw [← hld]; exact Nat.le_trans HW.out.size hk.size
  have hdad : aa < ld := by rw [← hld]; exact Nat.lt_of_lt_of_le Ha.out.lt hk.size
  have hdbd : ab < ld := by rw [← hld]; exact Nat.lt_of_lt_of_le Hb.out.lt hk.size
  have hdcd : ac < ld := by rw [← hld]; exact Nat.lt_of_lt_of_le Hc.out.lt hk.size
  refine (rd_New (show CmdRd (w7.alloc (.cells #[.int .u8 0] 5)) (fun k => k = w7.heap.size) (.slice (some ⟨w7.heap.size, 0, none⟩) 1 1) [0] from rd_new (bs := [0]) rfl (by unfold maxLen; decide)) (by decide)).mono ?_
  rintro x w8 ⟨ad, rfl, hr, hlad, -, hX0⟩
  have hX := hk.trans (hX0.mono hk.size)
  rw [hld] at hr hlad
  have HW := Lib.hid (HW.out.trans (hX.mono HW.out.size))
  have Ha := Lib.hid (Ha.out.below hX)
  have Hb := Lib.hid (Hb.out.below hX)
  have Hc := Lib.hid (Hc.out.below hX)
  have Hd := Lib.hid hr
  clear hX hX0 hk hr hld
  go_wp2_with fail
  refine (rd_Bytes (most := -1) Hd.out hlad (by decide) (by decide)).mono ?_
  rintro x w9 ⟨vx, rfl, ho, hr, hX⟩
  rw [k4] at hr
  rw [k4] at ho
  obtain ⟨pd, cd, rfl⟩ := empty_own ho
  clear ho
  have HW := Lib.hid (Ext.from HW.out hX (fun k e => by have : k = ad := e; omega))
  have Ha := Lib.hid (Ha.out.ext hX (fun k h1 h2 e => by have : k = ad := e; omega) hlaa)
  have Hb := Lib.hid (Hb.out.ext hX (fun k h1 h2 e => by have : k = ad := e; omega) hlab)
  have Hc := Lib.hid (Hc.out.ext hX (fun k h1 h2 e => by have : k = ad := e; omega) hlac)
  have Hd := Lib.hid hr
  clear hX hr
  go_wp2_with fail
  have hk := Below.refl w9.heap.size w9
  obtain ⟨lf, hlf⟩ : ∃ n, w9.heap.size = n := ⟨_, rfl⟩
  have hlf' : w.heap.size ≤ lf := by rw [← hlf]; exact Nat.le_trans HW.out.size hk.size
  have hdaf : aa < lf := by rw [← hlf]; exact Nat.lt_of_lt_of_le Ha.out.lt hk.size
  have hdbf : ab < lf := by rw [← hlf]; exact Nat.lt_of_lt_of_le Hb.out.lt hk.size
  have hdcf : ac < lf := by rw [← hlf]; exact Nat.lt_of_lt_of_le Hc.out.lt hk.size
  have hddf : ad < lf := by rw [← hlf]; exact Nat.lt_of_lt_of_le Hd.out.lt hk.size
  refine (rd_New (show CmdRd w9 (fun _ => False) (.slice none 0 0) [] from Rd.nil _ _ _) (by decide)).mono ?_
  rintro x w10 ⟨af, rfl, hr, hlaf, -, hX0⟩
  have hX := hk.trans (hX0.mono hk.size)
  rw [hlf] at hr hlaf
  have HW := Lib.hid (HW.out.trans (hX.mono HW.out.size))
  have Ha := Lib.hid (Ha.out.below hX)
  have Hb := Lib.hid (Hb.out.below hX)
  have Hc := Lib.hid (Hc.out.below hX)
  have Hd := Lib.hid (Hd.out.below hX)
  have Hf := Lib.hid hr
  clear hX hX0 hk hr hlf
  go_wp2_with fail
  refine (rd_Fail (x := 0) Hf.out hlaf).mono ?_
  rintro x w11 ⟨rfl, hr, hX⟩
  have hr : RdAt w11 lf af ⟨[], 0⟩ := hr
  have HW := Lib.hid (Ext.from HW.out hX (fun k e => by have : k = af := e; omega))
  have Ha := Lib.hid (Ha.out.ext hX (fun k h1 h2 e => by have : k = af := e; omega) hlaa)
  have Hb := Lib.hid (Hb.out.ext hX (fun k h1 h2 e => by have : k = af := e; omega) hlab)
  have Hc := Lib.hid (Hc.out.ext hX (fun k h1 h2 e => by have : k = af := e; omega) hlac)
  have Hd := Lib.hid (Hd.out.ext hX (fun k h1 h2 e => by have : k = af := e; omega) hlad)
  have Hf := Lib.hid hr
  clear hX hr
  go_wp2_with fail
  refine (rd_End Hf.out hlaf).mono ?_
  rintro x w12 ⟨rfl, hr, hX⟩
  rw [k6] at hr
  rw [k6]
  have HW := Lib.hid (Ext.from HW.out hX (fun k e => by have : k = af := e; omega))
  have Ha := Lib.hid (Ha.out.ext hX (fun k h1 h2 e => by have : k = af := e; omega) hlaa)
  have Hb := Lib.hid (Hb.out.ext hX (fun k h1 h2 e => by have : k = af := e; omega) hlab)
  have Hc := Lib.hid (Hc.out.ext hX (fun k h1 h2 e => by have : k = af := e; omega) hlac)
  have Hd := Lib.hid (Hd.out.ext hX (fun k h1 h2 e => by have : k = af := e; omega) hlad)
  have Hf := Lib.hid hr
  clear hX hr
  go_wp2_with fail
  refine (rd_Fail (x := 20) Hf.out hlaf).mono ?_
  rintro x w13 ⟨rfl, hr, hX⟩
  have hr : RdAt w13 lf af ⟨[], 20⟩ := hr
  have HW := Lib.hid (Ext.from HW.out hX (fun k e => by have : k = af := e; omega))
  have Ha := Lib.hid (Ha.out.ext hX (fun k h1 h2 e => by have : k = af := e; omega) hlaa)
  have Hb := Lib.hid (Hb.out.ext hX (fun k h1 h2 e => by have : k = af := e; omega) hlab)
  have Hc := Lib.hid (Hc.out.ext hX (fun k h1 h2 e => by have : k = af := e; omega) hlac)
  have Hd := Lib.hid (Hd.out.ext hX (fun k h1 h2 e => by have : k = af := e; omega) hlad)
  have Hf := Lib.hid hr
  clear hX hr
  go_wp2_with fail
  refine (rd_Fail (x := 5) Hf.out hlaf).mono ?_
  rintro x w14 ⟨rfl, hr, hX⟩
  have hr : RdAt w14 lf af ⟨[], 20⟩ := hr
  have HW := Lib.hid (Ext.from HW.out hX (fun k e => by have : k = af := e; omega))
  have Ha := Lib.hid (Ha.out.ext hX (fun k h1 h2 e => by have : k = af := e; omega) hlaa)
  have Hb := Lib.hid (Hb.out.ext hX (fun k h1 h2 e => by have : k = af := e; omega) hlab)
  have Hc := Lib.hid (Hc.out.ext hX (fun k h1 h2 e => by have : k = af := e; omega) hlac)
  have Hd := Lib.hid (Hd.out.ext hX (fun k h1 h2 e => by have : k = af := e; omega) hlad)
  have Hf := Lib.hid hr
  clear hX hr
  go_wp2_with fail
  refine (nil_Fail).mono ?_
  rintro x wz ⟨rfl, rfl⟩
  go_wp2_with fail
  refine (wr_Num_nil).mono ?_
  rintro x wz ⟨rfl, rfl⟩
  go_wp2_with fail
  refine (wr_Str_nil (b := [120]) (by decide)).mono ?_
  rintro x w15 ⟨rfl, hX⟩
  have HW := Lib.hid (HW.out.trans (hX.mono HW.out.size))
  have Ha := Lib.hid (Ha.out.below hX)
  have Hb := Lib.hid (Hb.out.below hX)
  have Hc := Lib.hid (Hc.out.below hX)
  have Hd := Lib.hid (Hd.out.below hX)
  have Hf := Lib.hid (Hf.out.below hX)
  clear hX
  go_wp2_with fail
  refine (wr_Bytes_nil (by decide)).mono ?_
  rintro x wz ⟨rfl, rfl⟩
  go_wp2_with fail
  refine (rd_Err Ha.out).mono ?_
  rintro x wz ⟨rfl, rfl⟩
  go_wp2_with fail
  refine (rd_Err Hb.out).mono ?_
  rintro x wz ⟨rfl, rfl⟩
  go_wp2_with fail
  refine (rd_Err Hc.out).mono ?_
  rintro x wz ⟨rfl, rfl⟩
  go_wp2_with fail
  refine (rd_End Hd.out hlad).mono ?_
  rintro x w16 ⟨rfl, hr, hX⟩
  rw [k6] at hr
  rw [k6]
  have HW := Lib.hid (Ext.from HW.out hX (fun k e => by have : k = ad := e; omega))
  have Ha := Lib.hid (Ha.out.ext hX (fun k h1 h2 e => by have : k = ad := e; omega) hlaa)
  have Hb := Lib.hid (Hb.out.ext hX (fun k h1 h2 e => by have : k = ad := e; omega) hlab)
  have Hc := Lib.hid (Hc.out.ext hX (fun k h1 h2 e => by have : k = ad := e; omega) hlac)
  have Hf := Lib.hid (Hf.out.ext hX (fun k h1 h2 e => by have : k = ad := e; omega) hlaf)
  have Hd := Lib.hid hr
  clear hX hr
  go_wp2_with fail
  refine (rd_Err Hf.out).mono ?_
  rintro x wz ⟨rfl, rfl⟩
  go_wp2_with fail
  refine (rd_Num Hf.out hlaf).mono ?_
  rintro x w17 ⟨rfl, hr, hX⟩
  rw [k5] at hr
  rw [k5]
  have HW := Lib.hid (Ext.from HW.out hX (fun k e => by have : k = af := e; omega))
  have Ha := Lib.hid (Ha.out.ext hX (fun k h1 h2 e => by have : k = af := e; omega) hlaa)
  have Hb := Lib.hid (Hb.out.ext hX (fun k h1 h2 e => by have : k = af := e; omega) hlab)
  have Hc := Lib.hid (Hc.out.ext hX (fun k h1 h2 e => by have : k = af := e; omega) hlac)
  have Hd := Lib.hid (Hd.out.ext hX (fun k h1 h2 e => by have : k = af := e; omega) hlad)
  have Hf := Lib.hid hr
  clear hX hr
  go_wp2_with fail
  refine (nil_Err).mono ?_
  rintro x wz ⟨rfl, rfl⟩
  go_wp2_with fail
  refine (nil_Num).mono ?_
  rintro x w18 ⟨rfl, hX⟩
  have HW := Lib.hid (HW.out.trans (hX.mono HW.out.size))
  have Ha := Lib.hid (Ha.out.below hX)
  have Hb := Lib.hid (Hb.out.below hX)
  have Hc := Lib.hid (Hc.out.below hX)
  have Hd := Lib.hid (Hd.out.below hX)
  have Hf := Lib.hid (Hf.out.below hX)
  clear hX
  go_wp2_with fail
  refine (nil_End).mono ?_
  rintro x wz ⟨rfl, rfl⟩
  go_wp2_with fail
  refine (nil_Left).mono ?_
  rintro x wz ⟨rfl, rfl⟩
  go_wp2_with fail
  refine (nil_Bytes (most := 5) (by decide)).mono ?_
  rintro x w19 ⟨rfl, hX⟩
  have HW := Lib.hid (HW.out.trans (hX.mono HW.out.size))
  have Ha := Lib.hid (Ha.out.below hX)
  have Hb := Lib.hid (Hb.out.below hX)
  have Hc := Lib.hid (Hc.out.below hX)
  have Hd := Lib.hid (Hd.out.below hX)
  have Hf := Lib.hid (Hf.out.below hX)
  clear hX
  go_wp2_with fail
  refine (nil_Count (most := 4) (by decide)).mono ?_
  rintro x w20 ⟨rfl, hX⟩
  have HW := Lib.hid (HW.out.trans (hX.mono HW.out.size))
  have Ha := Lib.hid (Ha.out.below hX)
  have Hb := Lib.hid (Hb.out.below hX)
  have Hc := Lib.hid (Hc.out.below hX)
  have Hd := Lib.hid (Hd.out.below hX)
  have Hf := Lib.hid (Hf.out.below hX)
  clear hX
  go_wp2_with fail
  refine (nil_Bool).mono ?_
  rintro x w21 ⟨rfl, hX⟩
  have HW := Lib.hid (HW.out.trans (hX.mono HW.out.size))
  have Ha := Lib.hid (Ha.out.below hX)
  have Hb := Lib.hid (Hb.out.below hX)
  have Hc := Lib.hid (Hc.out.below hX)
  have Hd := Lib.hid (Hd.out.below hX)
  have Hf := Lib.hid (Hf.out.below hX)
  clear hX
  go_wp2_with fail
  refine (nil_Int).mono ?_
  rintro x w22 ⟨rfl, hX⟩
  have HW := Lib.hid (HW.out.trans (hX.mono HW.out.size))
  have Ha := Lib.hid (Ha.out.below hX)
  have Hb := Lib.hid (Hb.out.below hX)
  have Hc := Lib.hid (Hc.out.below hX)
  have Hd := Lib.hid (Hd.out.below hX)
  have Hf := Lib.hid (Hf.out.below hX)
  clear hX
  go_wp2_with fail
  refine (nil_Str (most := 3) (by decide)).mono ?_
  rintro x w23 ⟨rfl, hX⟩
  have HW := Lib.hid (HW.out.trans (hX.mono HW.out.size))
  have Ha := Lib.hid (Ha.out.below hX)
  have Hb := Lib.hid (Hb.out.below hX)
  have Hc := Lib.hid (Hc.out.below hX)
  have Hd := Lib.hid (Hd.out.below hX)
  have Hf := Lib.hid (Hf.out.below hX)
  clear hX
  go_wp2_with fail
  refine (nil_Upto (most := 4)).mono ?_
  rintro x w24 ⟨rfl, hX⟩
  have HW := Lib.hid (HW.out.trans (hX.mono HW.out.size))
  have Ha := Lib.hid (Ha.out.below hX)
  have Hb := Lib.hid (Hb.out.below hX)
  have Hc := Lib.hid (Hc.out.below hX)
  have Hd := Lib.hid (Hd.out.below hX)
  have Hf := Lib.hid (Hf.out.below hX)
  clear hX
  go_wp2_with fail
  refine (wr_Out_nil).mono ?_
  rintro x wz ⟨rfl, rfl⟩
  go_wp2_with fail
  refine (zero_Err (Blk.new w24 _ _)).mono ?_
  rintro x wz ⟨rfl, rfl⟩
  go_wp2_with fail
  go_ret
  exact ⟨rfl, HW.out.alloc HW.out.size _⟩

set_option maxRecDepth 100000 in
theorem known_lifted (os : Os) (started : os.Started) (H : Type) (enc : TypeId × Value → H) :
    ReturnsInHanded {} Try.checked os 6 .any (Rows.wireKnownSpec.pre6 enc Try.prog Try.f6 Rows.wireKnownRow.domain false) (Rows.wireKnownSpec.post enc Try.prog Try.f6 false true false false) := by
  refine returnsInHanded_of_change_sized (C := Try.checked) own started (by kernel_rfl) Try.func6
    (ChangeSpec.witness6 (enc := enc) (C := Try.checked) false ⟨#[], #[], []⟩ 8 (by kernel_rfl) (by kernel_rfl) (by kernel_rfl) (by kernel_rfl)) ?_
  intro W base args ds gs before hval0 hW _ hsz0 _
  have hW' := hW
  obtain ⟨p, q, hA0, hV, rfl, _, _⟩ := hW
  have hA : DataW.TrodAll enc Try.prog W 0 (fun _ => true) true Try.f6.params.toList args.toList ds p := hA0
  rw [Try.params6] at hA
  obtain ⟨hl, rfl, rfl⟩ := trodAll_nil hA
  obtain rfl : args = #[] := by simpa using hl
  obtain ⟨rfl, rfl⟩ := trodVars_none hV
  clear hA0 hval0 hsz0
  refine known_walk.mono fun e W' ⟨he, hb⟩ => ?_
  subst he
  exact ⟨_, rfl, _, _, _, [], [], [], hW', trodAll_mk1 (shut_bool Try.underlying4 true), trodAll_mk0, rfl, hb.frame _, fun h => by cases h⟩


theorem known_holds : Rows.WireKnownSaid :=
  OpenClaim.holds_of_wide 6 Try.f6 rfl rfl rfl rfl rfl rfl rfl ⟨rfl, rfl, rfl, rfl, rfl⟩ rfl rfl rfl rfl rfl (by kernel_rfl) Try.func6 (by kernel_rfl)
    (of_decide_eq_true (by kernel_rfl)) (by unfold Func.isWrapper; first | (rw [if_pos (by decide +kernel)]; kernel_rfl) | (rw [if_neg (by decide +kernel)]; exact ⟨rfl, rfl⟩))
    (fun os started H enc _ => known_lifted os started H enc)
#print axioms known_holds
end Go.Proofs.Ytgmlgdfgooacbaa
