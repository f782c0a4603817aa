/-
  num.Put, num.Get, num.Fold, num.Unfold: contracts. No condition but that the bytes can be read.
-/
import Derived.Test.YtgmlgdfgooacbaaBy
import Derived.Lib.Varint
import Derived.Lib.Zigzag
import Derived.Lib.VarintBits
import Derived.Lib.VarintMem
namespace Go.Proofs.Ytgmlgdfgooacbaa
open Go.RowKit
set_option linter.unusedSimpArgs false
set_option linter.unusedVariables false

set_option maxHeartbeats 800000 in
theorem num_joined {w : World} {S : Nat → Prop} {v : Value} {bs : List UInt8} (h : CmdRd w S v bs) (hb : bs.length ≤ 200000000000000) :
    Calls Try.prog 44 #[v, .slice none 0 0] w fun e w' => ∃ v', e = .returned v' ∧ CmdOwn w' w.heap.size v' bs ∧ Below w.heap.size w w' := by
  have H := Lib.hid h
  obtain ⟨p0, c0, rfl⟩ := h.slice
  clear h
  go_enter Try.func44, Try.ntmps44
  go_wp2_with fail
  refine (slices_Clone_B (S := S) H.out (bcells_one _) hb).mono ?_
  rintro x w1 ⟨p, c, rfl, ho, hX⟩
  have Ho := Lib.hid (show CmdOwn w1 w.heap.size (.slice p bs.length c) bs from ho)
  have HX := Lib.hid hX
  clear ho hX
  go_wp2_with (at_builtin; refine wpList_append_rd rfl _ _ rfl w.heap.size _ bs [] (fun _ => False) rfl Ho.out none 0 rfl (Rd.nil _ _ _) NilOk.nil (by simpa using hb) HX.out.size ?_)
  intro v' w2 ho2 hg
  have Ho2 := Lib.hid ho2
  have HX2 := Lib.hid (HX.out.grown hg HX.out.size (fun k hk => (Ho.out.lt k hk).1))
  clear ho2 hg
  go_wp2_with fail
  go_ret
  exact ⟨v', rfl, Ho2.out, HX2.out⟩

theorem u8_of (y : Nat) (h : y < 256) : ((UInt8.ofNat y).toNat : Int) = y := by
  rw [UInt8.toNat_ofNat']; omega

theorem one_cells (b : UInt8) : bcells [b] = [.int .u8 b.toNat] := rfl

set_option maxHeartbeats 1600000 in
set_option maxRecDepth 100000 in
theorem num_Put {w : World} {S : Nat → Prop} {v : Value} {bs : List UInt8} {n : Nat} (h : CmdRd w S v bs) (hn : n < 18446744073709551616) (hb : bs.length + 10 ≤ 200000000000000) :
    Calls Try.prog 36 #[v, .int .u64 n] w fun e w' => ∃ v', e = .returned v' ∧ CmdOwn w' w.heap.size v' (bs ++ Lib.uvarint n) ∧ Below w.heap.size w w' := by
  obtain ⟨i0, hi, hz0, hz1, hz2⟩ := info_parts infoB
  have hlen := Lib.uvarint_length64 hn
  have H := Lib.hid h
  clear h
  go_enter Try.func36, Try.ntmps36
  go_wp2_with fail
  refine (num_joined H.out (by omega)).mono ?_
  rintro x w1 ⟨v1, rfl, ho, hX⟩
  obtain ⟨p1, c1, rfl⟩ := ho.slice
  have Ho := Lib.hid ho
  have HX := Lib.hid hX
  clear ho hX
  go_wp2_with fail
  go_loopw [0, 1] (fun vb vx wr => ∃ (y : Nat) (pre : List UInt8) (p : Option Addr) (c : Nat), vx = .int .u64 y ∧ y ≤ n ∧ Lib.uvarint n = pre ++ Lib.uvarint y ∧ vb = .slice p (bs ++ pre).length c ∧ CmdOwn wr w.heap.size vb (bs ++ pre) ∧ Below w.heap.size w wr)
    (fun _ vx _ => (intOf vx).toNat)
  case atStart => exact ⟨n, [], p1, c1, rfl, Nat.le_refl _, rfl, by rw [List.append_nil], by rw [List.append_nil]; exact Ho.out, HX.out⟩
  case round =>
    obtain ⟨y, pre, p, c, rfl, hy, hsplit, rfl, hown, hnx⟩ := hrel
    have Hsp := Lib.hid hsplit
    have Ho1 := Lib.hid hown
    have Hn1 := Lib.hid hnx
    have hyp := Lib.uvarint_pos y
    have hpl : pre.length + (Lib.uvarint y).length ≤ 10 := by
      have h2 := congrArg List.length hsplit
      rw [List.length_append] at h2
      omega
    have hbl : (bs ++ pre).length = bs.length + pre.length := List.length_append
    have Hbl := Lib.hid hbl
    have hsz := hnx.size
    clear hown hnx hsplit hbl Ho HX
    by_cases h128 : 128 ≤ y
    · have hor : bits .or .u8 ((y : Int) % 256) 128 = (y : Int) % 128 + 128 := by
        rw [Lib.u8_or128_any _ (by omega) (by omega)]
        omega
      obtain ⟨b, hbe, hbn⟩ : ∃ b : UInt8, b = (y % 128 + 128).toUInt8 ∧ (b.toNat : Int) = (y : Int) % 128 + 128 := ⟨_, rfl, by rw [Lib.toUInt8_toNat (by omega)]; omega⟩
      have Hbe := Lib.hid hbe
      have Hbn := Lib.hid hbn
      clear hbe hbn
      go_wp2_with (at_builtin; refine wpList_append_rd rfl _ _ rfl w.heap.size _ (bs ++ pre) [b] (fun _ => True) rfl (own_alloc Ho1.out _) (some ⟨wr.heap.size, 0, none⟩) 1 rfl ?c1 NilOk.some ?c2 ?c3 ?_)
      case c1 =>
        refine ⟨rfl, _, _, rfl, Nat.le_refl _, by unfold maxLen; decide, fun _ => ⟨_, 0, rfl, trivial, fun j u hu => ?_⟩⟩
        match j, hu with
        | 0, hu =>
          simp [bcells] at hu
          subst hu
          simp [Hbn.out]
        | j + 1, hu => simp [bcells] at hu
      case c2 => rw [Hbl.out]; simp; omega
      case c3 => simp; omega
      intro v' w1 hown' hgrow
      obtain ⟨p', c', hv'⟩ := hown'.slice
      subst hv'
      have hnx1 : Below w.heap.size w w1 := (Hn1.out.alloc (by omega) _).grown hgrow (by simp; omega) (fun k hk => (Ho1.out.lt k (by rw [Hbl.out]; exact hk)).1)
      have Ho2 := Lib.hid hown'
      have Hn2 := Lib.hid hnx1
      clear hown' hgrow hnx1
      go_wp2_with fail
      go_roundw
      case rel =>
        refine ⟨y / 128, pre ++ [b], p', c', by go_num, by omega, ?_, by first | rfl | rw [List.append_assoc], by have h := Ho2.out; first | exact h | (simp only [List.append_assoc] at h ⊢; exact h), Hn2.out⟩
        rw [Hsp.out, Lib.uvarint_big h128, ← Hbe.out, List.append_assoc]; rfl
      case measure => simp [intOf]; omega
    · have hsm : Lib.uvarint y = [UInt8.ofNat y] := Lib.uvarint_small (by omega)
      have Hsm := Lib.hid hsm
      clear hsm
      obtain ⟨b, hbe, hbn⟩ : ∃ b : UInt8, b = y.toUInt8 ∧ (b.toNat : Int) = (y : Int) := ⟨_, rfl, by rw [Lib.toUInt8_toNat (by omega)]⟩
      have Hbe := Lib.hid hbe
      have Hbn := Lib.hid hbn
      clear hbe hbn
      go_wp2_with (at_builtin; refine wpList_append_rd rfl _ _ rfl w.heap.size _ (bs ++ pre) [b] (fun _ => True) rfl (own_alloc Ho1.out _) (some ⟨wr.heap.size, 0, none⟩) 1 rfl ?c1 NilOk.some ?c2 ?c3 ?_)
      case c1 =>
        refine ⟨rfl, _, _, rfl, Nat.le_refl _, by unfold maxLen; decide, fun _ => ⟨_, 0, rfl, trivial, fun j u hu => ?_⟩⟩
        match j, hu with
        | 0, hu =>
          simp [bcells] at hu
          subst hu
          simp [Hbn.out]
        | j + 1, hu => simp [bcells] at hu
      case c2 => rw [Hbl.out]; simp; omega
      case c3 => simp; omega
      intro v' w1 hown' hgrow
      have hnx1 : Below w.heap.size w w1 := (Hn1.out.alloc (by omega) _).grown hgrow (by simp; omega) (fun k hk => (Ho1.out.lt k (by rw [Hbl.out]; exact hk)).1)
      have Ho2 := Lib.hid hown'
      have Hn2 := Lib.hid hnx1
      clear hown' hgrow hnx1
      go_wp2_with fail
      go_ret
      refine ⟨v', rfl, ?_, Hn2.out⟩
      rw [Hsp.out, Hsm.out]
      have h := Ho2.out
      rw [Hbe.out] at h
      first | exact h | (simp only [List.append_assoc] at h ⊢; exact h)
end Go.Proofs.Ytgmlgdfgooacbaa
