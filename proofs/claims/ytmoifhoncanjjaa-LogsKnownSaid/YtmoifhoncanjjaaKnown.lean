/-
  LogsKnown: the walk.
-/
import Derived.Test.YtmoifhoncanjjaaNone
import Derived.Test.YtmoifhoncanjjaaSame
namespace Go.Proofs.Ytmoifhoncanjjaa
open Go.RowKit
set_option linter.unusedSimpArgs false
set_option linter.unusedVariables false

theorem made4 (a b c d : Value) (n i : Nat) (h : i < n) : ((madeCells #[a, b, c, d] (n * 4)).toList.drop (i * 4)).take 4 = [a, b, c, d] := by
  apply List.ext_getElem?
  intro j
  rcases Nat.lt_or_ge j 4 with hj | hj
  · rw [List.getElem?_take, if_pos hj, List.getElem?_drop]
    have h1 : i * 4 + j < n * 4 := by omega
    have h2 : (i * 4 + j) % 4 = j := by omega
    have h3 : (madeCells #[a, b, c, d] (n * 4)).toList[i * 4 + j]? = some (#[a, b, c, d][(i * 4 + j) % 4]!) := by simp [madeCells, h1]
    rw [h3, h2]
    match j, hj with
    | 0, _ => rfl
    | 1, _ => rfl
    | 2, _ => rfl
    | 3, _ => rfl
  · rw [List.getElem?_eq_none (by simp; omega), List.getElem?_eq_none (by simpa using hj)]

def ZeroE : Ent := ⟨0, 0, 0, []⟩
/-- A made row of entries reads as zero entries. -/
theorem made_rd {w : World} {base n : Nat} {v : Value} (h : w.ownsRow base 33 4 v n (madeCells #[.int .u64 0, .int .u32 0, .int .u64 0, .slice none 0 0] (n * 4)).toList) :
    EntsRd w (fun k => base ≤ k ∧ k < w.heap.size) v (List.replicate n ZeroE) := by
  refine ⟨_, by rw [List.length_replicate]; exact Rd.of_own h, by rw [List.length_replicate, Array.length_toList, size_madeCells], fun i x hx => ?_⟩
  rw [List.getElem?_replicate] at hx
  split at hx
  · rename_i hi
    injection hx with hx
    subst hx
    exact ⟨.slice none 0 0, made4 _ _ _ _ n i hi, Rd.nil _ _ _⟩
  · cases hx

theorem okZ {m : Int} {k : Nat} (h0 : 0 ≤ m) (h1 : m ≤ 2199023255552) (hk : k ≤ 64) : LogOk m (List.replicate k ZeroE) :=
  ⟨fun e h => by rw [List.eq_of_mem_replicate h]; decide, by rw [List.length_replicate]; exact hk, h0, by omega⟩

theorem Rd.empty (w : World) (S : Nat → Prop) (sz : Nat) (p : Option Addr) (c : Nat) (hc : c ≤ maxLen) : Rd w S sz (.slice p 0 c) 0 [] :=
  ⟨by simp, p, c, rfl, Nat.zero_le _, hc, fun h => absurd h (by omega)⟩

theorem At_Cut' {W0 w : World} {b k : Nat} {m op : Int} {es : List Ent} (h : At W0 w b m es) (ok : LogOk m es) (hk : k ≤ es.length) (ho : op = m + k) :
    Calls Try.prog 11 #[.pointer (some ⟨b, 0, none⟩), .int .u64 op] w fun x w' => x = .returned (.int .i64 0) ∧ At W0 w' b op (es.drop k) := by
  subst ho
  refine (At_Cut h ok hk).mono ?_
  rintro x w' ⟨rfl, h, -⟩
  exact ⟨rfl, h⟩
theorem At_Trim' {W0 w : World} {b k : Nat} {m op : Int} {es : List Ent} (h : At W0 w b m es) (ok : LogOk m es) (hk : k ≤ es.length) (ho : op = m + k) :
    Calls Try.prog 12 #[.pointer (some ⟨b, 0, none⟩), .int .u64 op] w fun x w' => x = .returned (.int .i64 0) ∧ At W0 w' b m (es.take k) := by
  subst ho
  refine (At_Trim h ok hk).mono ?_
  rintro x w' ⟨rfl, h, -⟩
  exact ⟨rfl, h⟩
theorem At_Op' {W0 w : World} {b n : Nat} {m op : Int} {es : List Ent} (h : At W0 w b m es) (ok : LogOk m es) (hn : op = m + es.length) :
    Calls Try.prog 9 #[.pointer (some ⟨b, 0, none⟩)] w fun e w' => e = .returned (.int .u64 op) ∧ w = w' := by
  subst hn
  exact At_Op h ok
theorem At_Len {W0 w : World} {b n : Nat} {m : Int} {es : List Ent} (h : At W0 w b m es) (hn : es.length = n) :
    Calls Try.prog 18 #[.pointer (some ⟨b, 0, none⟩)] w fun e w' => e = .returned (.int .i64 n) ∧ w = w' := by
  subst hn
  obtain ⟨p, c, hB⟩ := h.blk
  exact log_Len hB

set_option maxHeartbeats 3200000 in
set_option maxRecDepth 100000 in
theorem known_walk {w : World} : Calls Try.prog 6 #[] w fun x w' => x = .returned (.bool true) ∧ Below w.heap.size w w' := by
  obtain ⟨i0, hi, iz0, iz1, iz2⟩ := info_parts infoE
  go_enter Try.func6, Try.ntmps6
  go_wp2_with fail
  have hz0 := Blk.new w 67 #[.int .u64 0, .slice none 0 0, .bool false]
  have hb0 := (Below.refl w.heap.size w).alloc (Nat.le_refl _) (.cells #[.int .u64 0, .slice none 0 0, .bool false] 67)
  have Z0 := Lib.hid hz0
  have B0 := Lib.hid hb0
  clear hz0 hb0
  generalize w.alloc (.cells #[.int .u64 0, .slice none 0 0, .bool false] 67) = W0 at *
  refine (Append_nil (e := ZeroE)).mono ?_
  rintro x w1 ⟨rfl, hX⟩
  have Z1 := Lib.hid (Blk.below Z0.out hX)
  have B1 := Lib.hid (B0.out.trans (hX.mono B0.out.size))
  clear hX Z0 B0
  go_wp2_with fail
  refine (Get_zero Z1.out).mono ?_
  rintro x w2 ⟨rfl, hX⟩
  have Z2 := Lib.hid (Blk.below Z1.out (hX.alloc (by exact hX.size) (.cells #[.int .u64 0, .int .u32 0, .int .u64 0, .slice none 0 0] 33)))
  have B2 := Lib.hid (B1.out.trans ((hX.alloc (by exact hX.size) (.cells #[.int .u64 0, .int .u32 0, .int .u64 0, .slice none 0 0] 33)).mono B1.out.size))
  clear hX Z1 B1
  unfold entVal
  go_wp2_with fail
  generalize w2.alloc (.cells #[.int .u64 0, .int .u32 0, .int .u64 0, .slice none 0 0] 33) = W2 at *
  refine From_nil.mono ?_
  rintro x w3 ⟨rfl, hX⟩
  have Z3 := Lib.hid (Blk.below Z2.out hX)
  have B3 := Lib.hid (B2.out.trans (hX.mono B2.out.size))
  clear hX Z2 B2
  go_wp2_with fail
  refine (Find_zero Z3.out).mono ?_
  rintro x w4 ⟨rfl, hX⟩
  have Z4 := Lib.hid (Blk.below Z3.out hX)
  have B4 := Lib.hid (B3.out.trans (hX.mono B3.out.size))
  clear hX Z3 B3
  go_wp2_with fail
  refine Cut_nil.mono ?_
  rintro x w5 ⟨rfl, hX⟩
  have Z5 := Lib.hid (Blk.below Z4.out hX)
  have B5 := Lib.hid (B4.out.trans (hX.mono B4.out.size))
  clear hX Z4 B4
  go_wp2_with fail
  refine (Trim_zero Z5.out).mono ?_
  rintro x w6 ⟨rfl, hX⟩
  have Z6 := Lib.hid (Blk.below Z5.out hX)
  have B6 := Lib.hid (B5.out.trans (hX.mono B5.out.size))
  clear hX Z5 B5
  go_wp2_with fail
  refine Op_nil.mono ?_
  rintro x w7 ⟨rfl, rfl⟩
  go_wp2_with fail
  refine (Base_zero Z6.out).mono ?_
  rintro x w7 ⟨rfl, rfl⟩
  go_wp2_with fail
  refine (Len_zero Z6.out).mono ?_
  rintro x w7 ⟨rfl, rfl⟩
  go_wp2_with fail
  refine Copy_nil.mono ?_
  rintro x w7 ⟨rfl, rfl⟩
  go_wp2_with fail
  refine (log_New_arg (by decide)).mono ?_
  rintro x w7 ⟨rfl, rfl⟩
  clear Z6
  go_wp2_with (at_make; refine wpList_make_full _ rfl _ _ 23 rfl w6.heap.size 33 i0 (.agg #[.int .u64 0, .int .u32 0, .int .u64 0, .slice none 0 0]) 4 Try.underlying23 hi iz0 iz1 .i64 .i64 64 64 64 rfl rfl rfl rfl ?c1 ?c2 ?c3 ?_)
  case c1 => rw [iz2]; decide
  case c2 => unfold maxLen; decide
  case c3 => exact Nat.le_refl _
  intro w8 hown hgr
  have R8 := Lib.hid (made_rd hown)
  have B8 := Lib.hid (B6.out.grown hgr B6.out.size (fun k hk => by cases hk))
  clear hown hgr B6
  go_wp2_with fail
  refine (log_New (m := 1099511627776) R8.out (okZ (m := 0) (k := 64) (by decide) (by decide) (by decide)).fits (by simp) (by decide)).mono ?_
  rintro x w9 ⟨b, rfl, hN⟩
  have A9 := Lib.hid (At.new hN B8.out)
  clear hN B8 R8
  go_wp2_with (at_make; refine wpList_make_full _ rfl _ _ 23 rfl w9.heap.size 33 i0 (.agg #[.int .u64 0, .int .u32 0, .int .u64 0, .slice none 0 0]) 4 Try.underlying23 hi iz0 iz1 .i64 .i64 65 65 65 rfl rfl rfl rfl ?d1 ?d2 ?d3 ?_)
  case d1 => rw [iz2]; decide
  case d2 => unfold maxLen; decide
  case d3 => exact Nat.le_refl _
  intro w10 hown hgr
  have A10 := Lib.hid (A9.out.below ((Below.refl w9.heap.size w9).grown hgr (Nat.le_refl _) (fun k hk => by cases hk)))
  clear hown hgr A9
  go_wp2_with fail
  refine (log_New_full (by decide) (by decide)).mono ?_
  rintro x w11 ⟨rfl, rfl⟩
  go_wp2_with fail
  obtain ⟨p, c, hB⟩ := A10.out.blk
  refine (Append_full (e := ZeroE) hB (by simp)).mono ?_
  rintro x w11 ⟨rfl, hX⟩
  have A11 := Lib.hid (A10.out.below hX)
  clear hB hX A10
  go_wp2_with fail
  refine (At_Len (n := 64) A11.out (by simp)).mono ?_
  rintro x w12 ⟨rfl, rfl⟩
  go_wp2_with fail
  refine (Cut_gone A11.out (okZ (by decide) (by decide) (by decide)) (by decide)).mono ?_
  rintro x w12 ⟨rfl, h⟩
  have A12 := Lib.hid h
  clear h A11
  go_wp2_with fail
  refine (At_Op' (n := 0) (op := 1099511627840) A12.out (okZ (by decide) (by decide) (by decide)) (by simp)).mono ?_
  rintro x w13 ⟨rfl, rfl⟩
  go_wp2_with fail
  refine (Cut_none A12.out (okZ (by decide) (by decide) (by decide)) (by simp)).mono ?_
  rintro x w13 ⟨rfl, h⟩
  have A13 := Lib.hid h
  clear h A12
  go_wp2_with fail
  refine (At_Cut' (k := 1) A13.out (okZ (by decide) (by decide) (by decide)) (by simp) (by decide)).mono ?_
  rintro x w14 ⟨rfl, h⟩
  rw [List.drop_replicate] at h
  have A14 := Lib.hid (show At w w14 b 1099511627777 (List.replicate 63 ZeroE) from h)
  clear h A13
  go_wp2_with fail
  refine (At_Len (n := 63) A14.out (by simp)).mono ?_
  rintro x w15 ⟨rfl, rfl⟩
  go_wp2_with fail
  refine (Trim_gone A14.out (okZ (by decide) (by decide) (by decide)) (by decide)).mono ?_
  rintro x w15 ⟨rfl, h⟩
  have A15 := Lib.hid h
  clear h A14
  go_wp2_with fail
  refine (At_Trim' (k := 0) A15.out (okZ (by decide) (by decide) (by decide)) (by simp) (by decide)).mono ?_
  rintro x w16 ⟨rfl, h⟩
  rw [List.take_zero] at h
  have A16 := Lib.hid h
  clear h A15
  go_wp2_with fail
  refine (At_Len (n := 0) A16.out rfl).mono ?_
  rintro x w17 ⟨rfl, rfl⟩
  go_wp2_with fail
  refine (log_Same (S := fun _ => True) (T := fun _ => True) (e := ZeroE) (f := ZeroE) (Rd.nil _ _ _) (Rd.empty _ _ _ _ _ (by decide))).mono ?_
  rintro x w18 ⟨rfl, hX⟩
  rw [show sameB ZeroE ZeroE = true from rfl]
  have A18 := Lib.hid (A16.out.below (((Below.refl w16.heap.size w16).alloc (Nat.le_refl _) _).trans (hX.mono (by simp))))
  clear hX A16
  go_wp2_with fail
  refine (log_Same (S := fun _ => True) (T := fun _ => True) (e := ZeroE) (f := ⟨1, 0, 0, []⟩) (Rd.nil _ _ _) (Rd.nil _ _ _)).mono ?_
  rintro x w19 ⟨rfl, hX⟩
  rw [show sameB ZeroE ⟨1, 0, 0, []⟩ = false from rfl]
  have A19 := Lib.hid (A18.out.below hX)
  clear hX A18
  go_wp2_with fail
  refine (log_Same (S := fun _ => True) (T := fun _ => True) (e := ZeroE) (f := ⟨0, 0, 1, []⟩) (Rd.nil _ _ _) (Rd.nil _ _ _)).mono ?_
  rintro x w20 ⟨rfl, hX⟩
  rw [show sameB ZeroE ⟨0, 0, 1, []⟩ = false from rfl]
  have A20 := Lib.hid (A19.out.below hX)
  clear hX A19
  go_wp2_with fail
  refine wakes_true.mono ?_
  rintro x w21 ⟨rfl, hX⟩
  have A21 := Lib.hid (A20.out.below hX)
  clear hX A20
  go_wp2_with fail
  go_ret
  exact ⟨rfl, A21.out.2.2⟩
end Go.Proofs.Ytmoifhoncanjjaa
