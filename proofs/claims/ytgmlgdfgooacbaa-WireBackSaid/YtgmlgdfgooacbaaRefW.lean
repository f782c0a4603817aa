/-
  The references' bytes and numbers: contracts. No condition but lengths far below what memory bears. (Printed by wip/gen_refw.py.)
-/
import Derived.Test.YtgmlgdfgooacbaaWri2
namespace Go.Proofs.Ytgmlgdfgooacbaa
open Go.RowKit
set_option linter.unusedSimpArgs false
set_option linter.unusedVariables false

set_option maxHeartbeats 800000 in
theorem ref_Own {w : World} {S : Nat → Prop} {v : Value} {bs : List UInt8} (h : CmdRd w S v bs) (hnil : NilOk v) (hb : bs.length ≤ 200000000000000) :
    Calls Try.prog 8 #[v] w fun e w' => ∃ v', e = .returned v' ∧ CmdOwn w' w.heap.size v' bs ∧ Below w.heap.size w w' := by
  have H := Lib.hid h
  have HN := Lib.hid hnil
  obtain ⟨p0, c0, rfl⟩ := h.slice
  clear h hnil
  go_enter Try.func8, Try.ntmps8
  go_wp2_with (at_builtin; refine wpList_append_rd rfl _ _ rfl w.heap.size _ [] bs S rfl (World.ownsRow_nil _ _ _ _) p0 c0 rfl H.out HN.out (by simpa using hb) (Nat.le_refl _) ?_)
  intro v' w2 ho2 hg
  have Ho2 := Lib.hid ho2
  have HX2 := Lib.hid ((Below.refl w.heap.size w).grown hg (Nat.le_refl _) (fun k hk => by simp [Value.ownBlock] at hk))
  clear ho2 hg
  go_wp2_with fail
  go_ret
  exact ⟨v', rfl, by have h := Ho2.out; first | exact h | (rw [List.nil_append] at h; exact h), HX2.out⟩

set_option maxHeartbeats 1600000 in
set_option maxRecDepth 100000 in
theorem ref_Put {w : World} {S : Nat → Prop} {v : Value} {bs : List UInt8} {n : Nat} (h : CmdRd w S v bs) (hnil : NilOk v) (hn : n < 18446744073709551616) (hb : bs.length + 10 ≤ 200000000000000) :
    Calls Try.prog 10 #[v, .int .u64 n] w fun e w' => ∃ v', e = .returned v' ∧ CmdOwn w' w.heap.size v' (bs ++ Lib.uvarint n) ∧ Below w.heap.size w w' := by
  obtain ⟨i0, hi, hz0, hz1, hz2⟩ := info_parts infoB
  have hlen := Lib.uvarint_length64 hn
  have H := Lib.hid h
  clear h
  go_enter Try.func10, Try.ntmps10
  go_wp2_with fail
  refine (ref_Own H.out hnil (by omega)).mono ?_
  rintro x w1 ⟨v1, rfl, ho, hX⟩
  obtain ⟨p1, c1, rfl⟩ := ho.slice
  have Ho := Lib.hid ho
  have HX := Lib.hid hX
  clear ho hX
  go_wp2_with fail
  go_loopw [1, 5] (fun vx vb wr => ∃ (y : Nat) (pre : List UInt8) (p : Option Addr) (c : Nat), vx = .int .u64 y ∧ y ≤ n ∧ Lib.uvarint n = pre ++ Lib.uvarint y ∧ vb = .slice p (bs ++ pre).length c ∧ CmdOwn wr w.heap.size vb (bs ++ pre) ∧ Below w.heap.size w wr)
    (fun vx _ _ => (intOf vx).toNat)
  case atStart => exact ⟨n, [], p1, c1, rfl, Nat.le_refl _, rfl, by rw [List.append_nil], by rw [List.append_nil]; exact Ho.out, HX.out⟩
  case round =>
    obtain ⟨y, pre, p, c, rfl, hy, hsplit, rfl, hown, hnx⟩ := hrel
    have Hsp := Lib.hid hsplit
    have Ho1 := Lib.hid hown
    have Hn1 := Lib.hid hnx
    have hyp := Lib.uvarint_pos y
    have hpl : pre.length + (Lib.uvarint y).length ≤ 10 := by
      have h2 := congrArg List.length hsplit
      rw [List.length_append] at h2
      omega
    have hbl : (bs ++ pre).length = bs.length + pre.length := List.length_append
    have Hbl := Lib.hid hbl
    have hsz := hnx.size
    clear hown hnx hsplit hbl Ho HX
    by_cases h128 : 128 ≤ y
    · obtain ⟨b, hbe, hbn⟩ : ∃ b : UInt8, b = (y % 128 + 128).toUInt8 ∧ (b.toNat : Int) = 128 + (y : Int) % 128 := ⟨_, rfl, by rw [Lib.toUInt8_toNat (by omega)]; omega⟩
      have Hbe := Lib.hid hbe
      have Hbn := Lib.hid hbn
      clear hbe hbn
      go_wp2_with (at_builtin; refine wpList_append_rd rfl _ _ rfl w.heap.size _ (bs ++ pre) [b] (fun _ => True) rfl (own_alloc Ho1.out _) (some ⟨wr.heap.size, 0, none⟩) 1 rfl ?c1 NilOk.some ?c2 ?c3 ?_)
      case c1 =>
        refine ⟨rfl, _, _, rfl, Nat.le_refl _, by unfold maxLen; decide, fun _ => ⟨_, 0, rfl, trivial, fun j u hu => ?_⟩⟩
        match j, hu with
        | 0, hu =>
          simp [bcells] at hu
          subst hu
          simp [Hbn.out]
        | j + 1, hu => simp [bcells] at hu
      case c2 => rw [Hbl.out]; simp; omega
      case c3 => simp; omega
      intro v' w1 hown' hgrow
      obtain ⟨p', c', hv'⟩ := hown'.slice
      subst hv'
      have hnx1 : Below w.heap.size w w1 := (Hn1.out.alloc (by omega) _).grown hgrow (by simp; omega) (fun k hk => (Ho1.out.lt k (by rw [Hbl.out]; exact hk)).1)
      have Ho2 := Lib.hid hown'
      have Hn2 := Lib.hid hnx1
      clear hown' hgrow hnx1
      go_wp2_with fail
      go_roundw
      case rel =>
        refine ⟨y / 128, pre ++ [b], p', c', by go_num, by omega, ?_, by first | rfl | rw [List.append_assoc], by have h := Ho2.out; first | exact h | (simp only [List.append_assoc] at h ⊢; exact h), Hn2.out⟩
        rw [Hsp.out, Lib.uvarint_big h128, ← Hbe.out, List.append_assoc]; rfl
      case measure => simp [intOf]; omega
    · have hsm : Lib.uvarint y = [UInt8.ofNat y] := Lib.uvarint_small (by omega)
      have Hsm := Lib.hid hsm
      clear hsm
      obtain ⟨b, hbe, hbn⟩ : ∃ b : UInt8, b = y.toUInt8 ∧ (b.toNat : Int) = (y : Int) := ⟨_, rfl, by rw [Lib.toUInt8_toNat (by omega)]⟩
      have Hbe := Lib.hid hbe
      have Hbn := Lib.hid hbn
      clear hbe hbn
      go_wp2_with (at_builtin; refine wpList_append_rd rfl _ _ rfl w.heap.size _ (bs ++ pre) [b] (fun _ => True) rfl (own_alloc Ho1.out _) (some ⟨wr.heap.size, 0, none⟩) 1 rfl ?c1 NilOk.some ?c2 ?c3 ?_)
      case c1 =>
        refine ⟨rfl, _, _, rfl, Nat.le_refl _, by unfold maxLen; decide, fun _ => ⟨_, 0, rfl, trivial, fun j u hu => ?_⟩⟩
        match j, hu with
        | 0, hu =>
          simp [bcells] at hu
          subst hu
          simp [Hbn.out]
        | j + 1, hu => simp [bcells] at hu
      case c2 => rw [Hbl.out]; simp; omega
      case c3 => simp; omega
      intro v' w1 hown' hgrow
      have hnx1 : Below w.heap.size w w1 := (Hn1.out.alloc (by omega) _).grown hgrow (by simp; omega) (fun k hk => (Ho1.out.lt k (by rw [Hbl.out]; exact hk)).1)
      have Ho2 := Lib.hid hown'
      have Hn2 := Lib.hid hnx1
      clear hown' hgrow hnx1
      go_wp2_with fail
      go_ret
      refine ⟨v', rfl, ?_, Hn2.out⟩
      rw [Hsp.out, Hsm.out]
      have h := Ho2.out
      rw [Hbe.out] at h
      first | exact h | (simp only [List.append_assoc] at h ⊢; exact h)

theorem ref_Fold {w : World} {x : Int} (h0 : -9223372036854775808 ≤ x) (h1 : x ≤ 9223372036854775807) :
    Calls Try.prog 12 #[.int .i64 x] w fun e w' => e = .returned (.int .u64 (Lib.zigzag x : Nat)) ∧ w = w' := by
  by_cases hneg : x < 0
  · have hz : ((Lib.zigzag x : Nat) : Int) = 2 * -(x + 1) + 1 := by unfold Lib.zigzag; rw [if_neg (by omega)]; omega
    rw [hz]
    clear hz
    go_enter Try.func12, Try.ntmps12
    go_wp2
    go_ret
    exact ⟨rfl, rfl⟩
  · have hz : ((Lib.zigzag x : Nat) : Int) = 2 * x := by unfold Lib.zigzag; rw [if_pos (by omega)]; omega
    rw [hz]
    clear hz
    go_enter Try.func12, Try.ntmps12
    go_wp2
    go_ret
    exact ⟨rfl, rfl⟩

set_option maxHeartbeats 800000 in
theorem ref_Bytes {w : World} {S T : Nat → Prop} {v u : Value} {bs b : List UInt8} (h : CmdRd w S v bs) (hnil : NilOk v) (hr : CmdRd w T u b) (hnil2 : NilOk u) (hb : bs.length + b.length + 10 ≤ 200000000000000) :
    Calls Try.prog 15 #[v, u] w fun e w' => ∃ v', e = .returned v' ∧ CmdOwn w' w.heap.size v' (bs ++ lenBytes b) ∧ Below w.heap.size w w' := by
  have H := Lib.hid h
  have HR := Lib.hid hr
  have HN := Lib.hid hnil
  have HN2 := Lib.hid hnil2
  obtain ⟨p0, c0, rfl⟩ := hr.slice
  have hu := Lib.uvarint_length64 (x := b.length) (by omega)
  obtain ⟨l, hl⟩ : ∃ l, bs ++ Lib.uvarint b.length = l := ⟨_, rfl⟩
  obtain ⟨r, hr'⟩ : ∃ r, l ++ b = r := ⟨_, rfl⟩
  have e : bs ++ lenBytes b = r := by rw [← hr', ← hl, List.append_assoc]; rfl
  have hlen : l.length + b.length ≤ 200000000000000 := by rw [← hl, List.length_append]; omega
  rw [e]
  have Hl := Lib.hid hl
  have Hr := Lib.hid hr'
  clear hl hr' e h hr hnil hnil2
  go_enter Try.func15, Try.ntmps15
  go_wp2_with fail
  refine (ref_Put (n := b.length) H.out HN.out (by omega) (by omega)).mono ?_
  rintro x w1 ⟨v1, rfl, ho, hX⟩
  rw [Hl.out] at ho
  obtain ⟨p1, c1, rfl⟩ := ho.slice
  have Ho := Lib.hid ho
  have HX := Lib.hid hX
  have HR1 := Lib.hid (CmdRd.below HR.out hX)
  clear ho hX
  go_wp2_with (at_builtin; refine wpList_append_rd rfl _ _ rfl w.heap.size _ l b T rfl Ho.out p0 c0 rfl HR1.out HN2.out hlen HX.out.size ?_)
  intro v2 w2 ho hg
  rw [Hr.out] at ho
  have Ho2 := Lib.hid ho
  have HX2 := Lib.hid (HX.out.grown hg HX.out.size (fun k hk => (Ho.out.lt k hk).1))
  clear ho hg
  go_wp2_with fail
  go_ret
  exact ⟨v2, rfl, Ho2.out, HX2.out⟩
end Go.Proofs.Ytgmlgdfgooacbaa
