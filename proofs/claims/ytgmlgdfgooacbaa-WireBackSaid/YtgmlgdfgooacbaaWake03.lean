/-
  The chapter's example of the wire: awake is true. No condition.
-/
import Derived.Test.YtgmlgdfgooacbaaRdr3
import Derived.Test.YtgmlgdfgooacbaaRefW
namespace Go.Proofs.Ytgmlgdfgooacbaa
open Go.RowKit
set_option linter.unusedSimpArgs false
set_option linter.unusedVariables false

theorem uv300 : Lib.uvarint 300 = [172, 2] := by
  rw [Lib.uvarint_big (by decide), Lib.uvarint_small (by decide)]; rfl
theorem uv1 : Lib.uvarint 1 = [1] := by rw [Lib.uvarint_small (by decide)]; rfl
theorem lb_ab : lenBytes [97, 98] = [2, 97, 98] := by unfold lenBytes; rw [Lib.uvarint_small (by decide)]; rfl

theorem s1 : rdNum ⟨[172, 2, 1, 2, 97, 98], 0⟩ = (300, ⟨[1, 2, 97, 98], 0⟩) := by rfl
theorem s2 : rdBool ⟨[1, 2, 97, 98], 0⟩ = (true, ⟨[2, 97, 98], 0⟩) := by rfl
theorem s3 : rdBytes ⟨[2, 97, 98], 0⟩ 1 = ([], ⟨[97, 98], 3⟩) := by rfl

/-- Bytes laid by the text. -/
theorem rd_new {w : World} {bs : List UInt8} {n : Nat} (hn : n = bs.length) (hm : n ≤ maxLen) : Rd (w.alloc (.cells (bcells bs).toArray 5)) (fun k => k = w.heap.size) 1 (.slice (some ⟨w.heap.size, 0, none⟩) n n) n (bcells bs) := by
  subst hn
  refine ⟨by rw [bcells_len, Nat.mul_one], _, _, rfl, Nat.le_refl _, hm, fun _ => ⟨_, 0, rfl, rfl, fun j u hu => ?_⟩⟩
  rw [Nat.zero_add, cell_of_row _ w.heap.size j (bcells bs).toArray 5 (0, 0) (heap_alloc_new w _)]
  simpa using hu

set_option maxHeartbeats 3200000 in
set_option maxRecDepth 100000 in
theorem awake_true {w : World} : Calls Try.prog 19 #[] w fun x w' => x = .returned (.bool true) ∧ Below w.heap.size w w' := by
  go_enter Try.func19, Try.ntmps19
  go_wp2_with fail
  have hW0 : WrAt (w.alloc (.cells #[.slice none 0 0] 25)) w.heap.size (w.heap.size + 1) w.heap.size [] := ⟨_, Blk.new w _ _, OwnIn.nil _ _ _⟩
  have hX0 : Ext (fun k => k = w.heap.size) w (w.alloc (.cells #[.slice none 0 0] 25)) := (Ext.refl _ _).alloc _
  generalize w.alloc (.cells #[.slice none 0 0] 25) = W0 at *
  have H0 := Lib.hid hW0
  have X0 := Lib.hid hX0
  clear hW0 hX0
  refine (wr_Num (n := 300) H0.out (by decide) (by decide)).mono ?_
  rintro x w1 ⟨rfl, hW, hX⟩
  have H1 := Lib.hid hW
  have X1 := Lib.hid (X0.out.trans hX)
  clear hW hX H0 X0
  go_wp2_with fail
  refine (wr_Bool (x := true) H1.out (by rw [uv300]; decide)).mono ?_
  rintro x w2 ⟨rfl, hW, hX⟩
  have H2 := Lib.hid hW
  have X2 := Lib.hid (X1.out.trans hX)
  clear hW hX H1 X1
  go_wp2_with fail
  refine (wr_Str (b := [97, 98]) H2.out (by rw [uv300, show true.toNat = 1 from rfl, uv1]; decide)).mono ?_
  rintro x w3 ⟨rfl, hW, hX⟩
  have X3 := Lib.hid (X2.out.trans hX)
  have h3 : WrAt w3 w2.heap.size w3.heap.size w.heap.size [172, 2, 1, 2, 97, 98] := by
    rw [uv300, show true.toNat = 1 from rfl, uv1, lb_ab] at hW
    exact hW
  have H3 := Lib.hid h3
  clear hW hX H2 X2 h3
  go_wp2_with fail
  refine (wr_Out H3.out (by decide)).mono ?_
  rintro x w4 ⟨p, c, rfl, ho, hX⟩
  have H4 := Lib.hid (H3.out.below hX)
  have X4 := Lib.hid (X3.out.trans (Ext.of_below (fun k => k = w.heap.size) hX))
  have hz3 := hX.size
  have HO := Lib.hid ho
  clear ho hX H3 X3
  go_wp2_with fail
  refine (rd_New HO.out.rd (by decide)).mono ?_
  rintro x w5 ⟨a, rfl, hr, hla, hlt, hX⟩
  have H5 := Lib.hid (H4.out.below hX)
  have X5 := Lib.hid (X4.out.trans (Ext.of_below (fun k => k = w.heap.size) hX))
  have HR := Lib.hid hr
  have hsz := X4.out.size
  have hwa : w.heap.size < w4.heap.size := H4.out.lt
  clear hr hX H4 X4 HO
  go_wp2_with fail
  refine (rd_Num HR.out hla).mono ?_
  rintro x w6 ⟨rfl, hr, hX⟩
  rw [s1] at hr
  rw [s1]
  have H6 := Lib.hid (H5.out.ext hX (fun g h1 h2 e => by have : g = a := e; omega) (by show ¬ w.heap.size = a; omega))
  have X6 := Lib.hid ((X5.out.mono (M' := fun k => w.heap.size ≤ k) (fun k _ e => by have : k = w.heap.size := e; omega)).trans (hX.mono (fun k _ e => by have : k = a := e; omega)))
  have HR6 := Lib.hid hr
  clear hr hX H5 X5 HR
  go_wp2_with fail
  refine (rd_Bool HR6.out hla).mono ?_
  rintro x w7 ⟨rfl, hr, hX⟩
  rw [s2] at hr
  rw [s2]
  have H7 := Lib.hid (H6.out.ext hX (fun g h1 h2 e => by have : g = a := e; omega) (by show ¬ w.heap.size = a; omega))
  have X7 := Lib.hid (X6.out.trans (hX.mono (fun k _ e => by have : k = a := e; omega)))
  have HR7 := Lib.hid hr
  clear hr hX H6 X6 HR6
  go_wp2_with fail
  refine (rd_Str HR7.out hla (by decide) (by decide)).mono ?_
  rintro x w8 ⟨rfl, hr, hX⟩
  rw [s3] at hr
  rw [s3]
  have H8 := Lib.hid (H7.out.ext hX (fun g h1 h2 e => by have : g = a := e; omega) (by show ¬ w.heap.size = a; omega))
  have X8 := Lib.hid (X7.out.trans (hX.mono (fun k _ e => by have : k = a := e; omega)))
  have HR8 := Lib.hid hr
  clear hr hX H7 X7 HR7
  go_wp2_with fail
  refine (wr_Out H8.out (by decide)).mono ?_
  rintro x w9 ⟨p2, c2, rfl, ho, hX⟩
  have hk := (Below.refl w9.heap.size w9).alloc (Nat.le_refl _) (.cells #[.int .u8 172, .int .u8 2, .int .u8 1, .int .u8 2, .int .u8 97, .int .u8 98] 5)
  have X9 := Lib.hid ((X8.out.trans (Ext.of_below (fun k => w.heap.size ≤ k) hX)).trans (Ext.of_below (fun k => w.heap.size ≤ k) hk))
  have HO9 := Lib.hid (CmdRd.below ho.rd hk)
  have HR9 := Lib.hid ((HR8.out.below hX).below hk)
  have HN9 := Lib.hid (show CmdRd (w9.alloc (.cells #[.int .u8 172, .int .u8 2, .int .u8 1, .int .u8 2, .int .u8 97, .int .u8 98] 5)) (fun k => k = w9.heap.size) (.slice (some ⟨w9.heap.size, 0, none⟩) 6 6) [172, 2, 1, 2, 97, 98] from rd_new (bs := [172, 2, 1, 2, 97, 98]) rfl (by unfold maxLen; decide))
  clear ho hX hk H8 X8 HR8
  go_wp2_with fail
  refine (bytes_Equal HO9.out HN9.out).mono ?_
  rintro x w10 ⟨rfl, rfl⟩
  rw [show (([172, 2, 1, 2, 97, 98] : List UInt8) == [172, 2, 1, 2, 97, 98]) = true from by decide]
  go_wp2_with fail
  refine (rd_Err HR9.out).mono ?_
  rintro x w10 ⟨rfl, rfl⟩
  go_wp2_with fail
  go_ret
  exact ⟨rfl, X9.out.new (fun k hk => hk)⟩
end Go.Proofs.Ytgmlgdfgooacbaa
