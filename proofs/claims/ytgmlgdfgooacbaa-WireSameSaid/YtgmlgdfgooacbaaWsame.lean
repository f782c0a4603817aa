/-
  WireSame: the walk. Condition: the arguments can be read. (Printed by wip/gen_wsame.py.)
-/
import Derived.Test.YtgmlgdfgooacbaaWake03
import Derived.Test.YtgmlgdfgooacbaaLaw03
namespace Go.Proofs.Ytgmlgdfgooacbaa
open Go.RowKit
set_option linter.unusedSimpArgs false
set_option linter.unusedVariables false

theorem bytes_HasPrefix {w : World} {S T : Nat → Prop} {v u : Value} {l a r : List UInt8} (h : CmdRd w S v l) (k : CmdRd w T u a) (e : a ++ r = l) :
    Calls Try.prog 27 #[v, u] w fun x w' => x = .returned (.bool true) ∧ w = w' := by
  have hle : a.length ≤ l.length := by rw [← e, List.length_append]; omega
  have ht : l.take a.length = a := by rw [← e, List.take_left]
  have hlen := Rd.le h
  unfold maxLen at hlen
  obtain ⟨p, c, rfl⟩ := h.slice
  obtain ⟨q, d, rfl⟩ := k.slice
  have hcb : l.length ≤ c := by obtain ⟨_, _, _, h, h1, _⟩ := h; injection h with _ _ h; omega
  have hf := h.front hle
  rw [ht] at hf
  have HF := Lib.hid hf
  have HK := Lib.hid k
  clear h k hf ht e
  go_enter Try.func27, Try.ntmps27
  go_wp2_with fail
  refine (bytes_Equal HF.out HK.out).mono ?_
  rintro x w1 ⟨rfl, rfl⟩
  rw [show (a == a) = true from by simp]
  go_wp2_with fail
  go_ret
  exact ⟨rfl, rfl⟩

theorem rdNum_same {s : RS} (h : s.e = 0) (h' : (rdNum s).2.e = 0) : Lib.uvarint (rdNum s).1 ++ (rdNum s).2.b = s.b := by
  unfold rdNum at h' ⊢
  rw [if_pos h] at h' ⊢
  split
  · rename_i hg
    show Lib.uvarint (numGet s.b).1 ++ s.b.drop (numGet s.b).2.1 = s.b
    rw [← numGet_canon hg, List.take_append_drop]
  · rename_i hg
    rw [if_neg hg] at h'
    exfalso
    have : (((numGet s.b).2.2 : Nat) : Int) = 0 := h'
    omega
theorem rdFail_e {s : RS} {x : Int} (hx : x ≠ 0) : (rdFail s x).e ≠ 0 := by
  unfold rdFail
  split
  · exact hx
  · assumption
theorem rdInt_same {s : RS} (h : s.e = 0) (h' : (rdInt s).2.e = 0) : Lib.uvarint (Lib.zigzag (rdInt s).1) ++ (rdInt s).2.b = s.b := by
  show Lib.uvarint (Lib.zigzag (Lib.unzigzag (rdNum s).1)) ++ (rdNum s).2.b = s.b
  rw [zig_unzig]
  exact rdNum_same h h'
theorem rdBool_same {s : RS} (h : s.e = 0) (h' : (rdBool s).2.e = 0) : Lib.uvarint (rdBool s).1.toNat ++ (rdBool s).2.b = s.b := by
  unfold rdBool at h' ⊢
  by_cases hc : 1 < (rdNum s).1
  · simp only [if_pos hc] at h'
    exact absurd h' (rdFail_e (by decide))
  · simp only [if_neg hc] at h' ⊢
    have e : ((rdNum s).1 == 1).toNat = (rdNum s).1 := by
      rcases (show (rdNum s).1 = 0 ∨ (rdNum s).1 = 1 from by omega) with e | e <;> rw [e] <;> rfl
    rw [e]
    exact rdNum_same h h'
theorem rdBytes_same {s : RS} {m : Int} (h : s.e = 0) (h' : (rdBytes s m).2.e = 0) : lenBytes (rdBytes s m).1 ++ (rdBytes s m).2.b = s.b := by
  unfold rdBytes at h' ⊢
  by_cases he : (rdCount s m).2.e = 0
  · simp only [if_pos he] at h' ⊢
    by_cases hn : (rdCount s m).1 ≤ (rdCount s m).2.b.length
    · simp only [if_pos hn] at h' ⊢
      have hc : rdCount s m = rdNum s := by
        unfold rdCount rdUpto at he ⊢
        by_cases hm : m.toNat < (rdNum s).1
        · simp only [if_pos hm] at he
          exact absurd he (rdFail_e (by decide))
        · rw [if_neg hm]
      rw [hc] at hn he ⊢
      have hl : ((rdNum s).2.b.take (rdNum s).1).length = (rdNum s).1 := by rw [List.length_take]; omega
      unfold lenBytes
      rw [hl, List.append_assoc, List.take_append_drop]
      exact rdNum_same h he
    · simp only [if_neg hn] at h'
      exact absurd h' (by decide)
  · simp only [if_neg he] at h'
    exact absurd h' he

/-- What the walk keeps: a reader and a writer that live apart; the arguments. -/
structure Sm (w : World) (S : Nat → Prop) (vb : Value) (b : List UInt8) (vl : Value) (ls : List UInt8) (a aw : Nat) (s : RS) (out : List UInt8) (W : World) : Prop where
  bel : Below w.heap.size w W
  rb : CmdRd W S vb b
  rl : CmdRd W S vl ls
  rd : RdAt W w.heap.size a s
  wr : WrAt W (aw + 1) W.heap.size aw out
  la : w.heap.size ≤ a
  aw : a < aw
section
variable {w W W' : World} {S : Nat → Prop} {vb vl : Value} {b ls out out' : List UInt8} {a aw : Nat} {s s' : RS}
theorem Sm.below (h : Sm w S vb b vl ls a aw s out W) (hX : Below W.heap.size W W') : Sm w S vb b vl ls a aw s out W' :=
  ⟨h.bel.trans (hX.mono h.bel.size), h.rb.below hX, h.rl.below hX, h.rd.below hX, (h.wr.below hX).mono (Nat.le_refl _) hX.size, h.la, h.aw⟩
theorem Sm.read (h : Sm w S vb b vl ls a aw s out W) (hX : Ext (fun k => k = a) W W') (hr : RdAt W' w.heap.size a s') (hS : ∀ k, S k → k < w.heap.size) : Sm w S vb b vl ls a aw s' out W' := by
  have ha := h.aw
  have hl := h.la
  exact ⟨Ext.from h.bel hX (fun g e => by have : g = a := e; omega), Rd.ext h.rb hX (fun g x e => by have := hS g x; have : g = a := e; omega) (by decide), Rd.ext h.rl hX (fun g x e => by have := hS g x; have : g = a := e; omega) (by decide), hr,
    (h.wr.ext hX (fun g x _ e => by have : g = a := e; omega) (fun e => by have : aw = a := e; omega)).mono (Nat.le_refl _) hX.size, h.la, h.aw⟩
theorem Sm.wrote (h : Sm w S vb b vl ls a aw s out W) (hX : Ext (fun k => k = aw) W W') (hw : WrAt W' W.heap.size W'.heap.size aw out') (hS : ∀ k, S k → k < w.heap.size) : Sm w S vb b vl ls a aw s out' W' := by
  have ha := h.aw
  have hl := h.la
  have hlt := h.wr.lt
  exact ⟨Ext.from h.bel hX (fun g e => by have : g = aw := e; omega), Rd.ext h.rb hX (fun g x e => by have := hS g x; have : g = aw := e; omega) (by decide), Rd.ext h.rl hX (fun g x e => by have := hS g x; have : g = aw := e; omega) (by decide),
    h.rd.ext hX (fun g _ x e => by have : g = aw := e; omega) hl, hw.mono (by omega) (Nat.le_refl _), h.la, h.aw⟩
end

set_option maxHeartbeats 12000000 in
set_option maxRecDepth 100000 in
theorem same_walk {w : World} {S : Nat → Prop} {v vl : Value} {b0 ls : List UInt8} (h : CmdRd w S v b0) (hl : CmdRd w S vl ls) (hS : ∀ k, S k → k < w.heap.size) :
    Calls Try.prog 4 #[v, vl] w fun x w' => x = .returned (.bool true) ∧ Below w.heap.size w w' := by
  have hlen := Rd.le h
  have hlen2 := Rd.le hl
  unfold maxLen at hlen hlen2
  obtain ⟨p, c, rfl⟩ := h.slice
  obtain ⟨q, d, rfl⟩ := hl.slice
  have hcb : b0.length ≤ c := by obtain ⟨_, _, _, h, h1, _⟩ := h; injection h with _ _ h; omega
  obtain ⟨b, hb, hb5, hbl⟩ : ∃ b, b0.take 500 = b ∧ b.length ≤ 500 ∧ b.length ≤ b0.length := ⟨_, rfl, by rw [List.length_take]; omega, by rw [List.length_take]; omega⟩
  have hm : (if (500 : Int) < (b0.length : Int) then (500 : Int) else (b0.length : Int)) = (b.length : Int) := by rw [← hb, List.length_take]; split <;> omega
  have hf := h.front hbl
  rw [show b0.take b.length = b from by rw [← hb, List.length_take, ← List.take_take, List.take_length]] at hf
  have HF := Lib.hid hf
  have HL := Lib.hid hl
  clear h hl hf hb
  go_enter Try.func4, Try.ntmps4
  go_wp2_with fail
  clear hm
  refine (rd_New HF.out (by omega)).mono ?_
  rintro x w1 ⟨a, rfl, hr, hla, hlt, hX⟩
  have hk := (Below.refl w1.heap.size w1).alloc (Nat.le_refl _) (.cells #[.slice none 0 0] 25)
  have hsm : Sm w S (.slice p b.length c) b (.slice q ls.length d) ls a w1.heap.size ⟨b, 0⟩ [] (w1.alloc (.cells #[.slice none 0 0] 25)) :=
    ⟨hX.trans (hk.mono hX.size), (CmdRd.below HF.out hX).below hk, (CmdRd.below HL.out hX).below hk, hr.below hk, ⟨_, Blk.new w1 _ _, OwnIn.nil _ _ _⟩, hla, hlt⟩
  have HS := Lib.hid hsm
  clear hsm hr hX hk HF HL
  go_wp2_with fail
  go_loopw [24] (fun i wr => ∃ (k : Nat) (s : RS) (out : List UInt8), k ≤ ls.length ∧ k ≤ 60 ∧ i = .int .i64 k ∧ s.e = 0 ∧ out ++ s.b = b ∧ Sm w S (.slice p b.length c) b (.slice q ls.length d) ls a w1.heap.size s out wr) (fun i _ => ls.length - (intOf i).toNat)
  case atStart => exact ⟨0, ⟨b, 0⟩, [], Nat.zero_le _, Nat.zero_le _, rfl, rfl, rfl, HS.out⟩
  case round =>
    clear HS
    obtain ⟨k, s, out, hk, hk60, rfl, hse, hsb, hsm⟩ := hrel
    have HS := Lib.hid hsm
    have Hse := Lib.hid hse
    have Hsb := Lib.hid hsb
    have hol : out.length + s.b.length = b.length := by rw [← hsb, List.length_append]
    clear hsm hse hsb
    by_cases hlt2 : k < ls.length
    · obtain ⟨bk, off, he, _, _, hcell⟩ := Rd.addr HS.out.rl (by omega)
      subst he
      have hx := hcell k _ (by rw [bcells, List.getElem?_map, List.getElem?_eq_getElem hlt2]; rfl)
      generalize ls[k]'hlt2 = x at hx
      have hx256 := x.toNat_lt
      clear hcell
      by_cases h60 : k = 60
      · subst h60
        go_wp2_with fail
        refine (wr_Out HS.out.wr (by omega)).mono ?_
        rintro y w2 ⟨po, co, rfl, ho, hX⟩
        have HS2 := Lib.hid (HS.out.below hX)
        have HO := Lib.hid ho
        clear ho hX HS
        go_wp2_with fail
        refine (awake_true).mono ?_
        rintro y w3 ⟨rfl, hX⟩
        have HS3 := Lib.hid (HS2.out.below hX)
        have HO3 := Lib.hid (HO.out.rd.below hX)
        clear hX HS2 HO
        go_wp2_with fail
        refine (bytes_HasPrefix HS3.out.rb HO3.out Hsb.out).mono ?_
        rintro y w4 ⟨rfl, rfl⟩
        go_wp2_with fail
        refine (rd_Left HS3.out.rd).mono ?_
        rintro y w4 ⟨rfl, rfl⟩
        have hle : (rdLeft s : Int) = (b.length : Int) - (out.length : Int) := by unfold rdLeft; rw [if_pos Hse.out]; omega
        rw [hle]
        go_wp2_with fail
        go_ret
        exact ⟨rfl, HS3.out.bel⟩
      · have h60b : ((k : Int) == 60) = false := by simp; omega
        have h5 : (x.toNat : Int) % 5 = 0 ∨ (x.toNat : Int) % 5 = 1 ∨ (x.toNat : Int) % 5 = 2 ∨ (x.toNat : Int) % 5 = 3 ∨ (x.toNat : Int) % 5 = 4 := by omega
        rcases h5 with h5 | h5 | h5 | h5 | h5
        · go_wp2_with fail
          refine (rd_Num HS.out.rd HS.out.la).mono ?_
          rintro y w2 ⟨rfl, hr, hX⟩
          have HS1 := Lib.hid (HS.out.read hX hr hS)
          have hw1 := HS.out.wr.lt
          have hz1 := hX.size
          clear hX hr HS
          obtain ⟨s', hs'⟩ : ∃ s', (rdNum s).2 = s' := ⟨_, rfl⟩
          have hsame : s'.e = 0 → (Lib.uvarint (rdNum s).1) ++ s'.b = s.b := by rw [← hs']; exact rdNum_same Hse.out
          rw [hs'] at HS1
          clear hs'
          have Hsame := Lib.hid hsame
          clear hsame
          go_wp2_with fail
          refine (rd_Err HS1.out.rd).mono ?_
          rintro y w3 ⟨rfl, rfl⟩
          by_cases he : s'.e = 0
          · have hpl : (Lib.uvarint (rdNum s).1).length + s'.b.length = s.b.length := by rw [← Hsame.out he, List.length_append]
            rw [he]
            go_wp2_with fail
            refine (wr_Num HS1.out.wr (rdNum_lt s) (by omega)).mono ?_
            rintro y w4 ⟨rfl, hw, hX⟩
            have HS2 := Lib.hid (HS1.out.wrote hX hw hS)
            clear hX hw HS1
            go_wp2_with fail
            refine (rd_Err HS2.out.rd).mono ?_
            rintro y w5 ⟨rfl, rfl⟩
            rw [he]
            go_wp2_with fail
            have hnew : (out ++ (Lib.uvarint (rdNum s).1)) ++ s'.b = b := by rw [List.append_assoc, Hsame.out he]; exact Hsb.out
            have Hnew := Lib.hid hnew
            have He := Lib.hid he
            clear hnew he
            go_roundw
            case rel => exact ⟨k + 1, s', out ++ (Lib.uvarint (rdNum s).1), by omega, by omega, by go_num, He.out, Hnew.out, HS2.out⟩
            case measure => simp [intOf] <;> omega
          · have t1 : (s'.e == 0) = false := by simpa using he
            have t2 : (s'.e != 0) = true := by simpa using he
            clear he
            go_wp2_with fail
            refine (rd_Err HS1.out.rd).mono ?_
            rintro y w4 ⟨rfl, rfl⟩
            go_wp2_with fail
            refine (awake_true).mono ?_
            rintro y w5 ⟨rfl, hX⟩
            have HS2 := Lib.hid (HS1.out.below hX)
            clear hX HS1
            go_wp2_with fail
            refine (wr_Out HS2.out.wr (by omega)).mono ?_
            rintro y w6 ⟨po, co, rfl, ho, hX⟩
            have HS3 := Lib.hid (HS2.out.below hX)
            have HO := Lib.hid ho
            clear ho hX HS2
            go_wp2_with fail
            refine (bytes_HasPrefix HS3.out.rb HO.out.rd Hsb.out).mono ?_
            rintro y w7 ⟨rfl, rfl⟩
            go_wp2_with fail
            go_ret
            exact ⟨rfl, HS3.out.bel⟩
        · go_wp2_with fail
          refine (rd_Int HS.out.rd HS.out.la).mono ?_
          rintro y w2 ⟨rfl, hr, hX⟩
          have HS1 := Lib.hid (HS.out.read hX hr hS)
          have hw1 := HS.out.wr.lt
          have hz1 := hX.size
          clear hX hr HS
          obtain ⟨s', hs'⟩ : ∃ s', (rdInt s).2 = s' := ⟨_, rfl⟩
          have hsame : s'.e = 0 → (Lib.uvarint (Lib.zigzag (rdInt s).1)) ++ s'.b = s.b := by rw [← hs']; exact rdInt_same Hse.out
          rw [hs'] at HS1
          clear hs'
          have Hsame := Lib.hid hsame
          clear hsame
          go_wp2_with fail
          refine (rd_Err HS1.out.rd).mono ?_
          rintro y w3 ⟨rfl, rfl⟩
          by_cases he : s'.e = 0
          · have hpl : (Lib.uvarint (Lib.zigzag (rdInt s).1)).length + s'.b.length = s.b.length := by rw [← Hsame.out he, List.length_append]
            rw [he]
            go_wp2_with fail
            refine (wr_Int HS1.out.wr (unzig_bounds (rdNum_lt s)).1 (unzig_bounds (rdNum_lt s)).2 (by omega)).mono ?_
            rintro y w4 ⟨rfl, hw, hX⟩
            have HS2 := Lib.hid (HS1.out.wrote hX hw hS)
            clear hX hw HS1
            go_wp2_with fail
            refine (rd_Err HS2.out.rd).mono ?_
            rintro y w5 ⟨rfl, rfl⟩
            rw [he]
            go_wp2_with fail
            have hnew : (out ++ (Lib.uvarint (Lib.zigzag (rdInt s).1))) ++ s'.b = b := by rw [List.append_assoc, Hsame.out he]; exact Hsb.out
            have Hnew := Lib.hid hnew
            have He := Lib.hid he
            clear hnew he
            go_roundw
            case rel => exact ⟨k + 1, s', out ++ (Lib.uvarint (Lib.zigzag (rdInt s).1)), by omega, by omega, by go_num, He.out, Hnew.out, HS2.out⟩
            case measure => simp [intOf] <;> omega
          · have t1 : (s'.e == 0) = false := by simpa using he
            have t2 : (s'.e != 0) = true := by simpa using he
            clear he
            go_wp2_with fail
            refine (rd_Err HS1.out.rd).mono ?_
            rintro y w4 ⟨rfl, rfl⟩
            go_wp2_with fail
            refine (awake_true).mono ?_
            rintro y w5 ⟨rfl, hX⟩
            have HS2 := Lib.hid (HS1.out.below hX)
            clear hX HS1
            go_wp2_with fail
            refine (wr_Out HS2.out.wr (by omega)).mono ?_
            rintro y w6 ⟨po, co, rfl, ho, hX⟩
            have HS3 := Lib.hid (HS2.out.below hX)
            have HO := Lib.hid ho
            clear ho hX HS2
            go_wp2_with fail
            refine (bytes_HasPrefix HS3.out.rb HO.out.rd Hsb.out).mono ?_
            rintro y w7 ⟨rfl, rfl⟩
            go_wp2_with fail
            go_ret
            exact ⟨rfl, HS3.out.bel⟩
        · go_wp2_with fail
          refine (rd_Bool HS.out.rd HS.out.la).mono ?_
          rintro y w2 ⟨rfl, hr, hX⟩
          have HS1 := Lib.hid (HS.out.read hX hr hS)
          have hw1 := HS.out.wr.lt
          have hz1 := hX.size
          clear hX hr HS
          obtain ⟨s', hs'⟩ : ∃ s', (rdBool s).2 = s' := ⟨_, rfl⟩
          have hsame : s'.e = 0 → (Lib.uvarint (rdBool s).1.toNat) ++ s'.b = s.b := by rw [← hs']; exact rdBool_same Hse.out
          rw [hs'] at HS1
          clear hs'
          have Hsame := Lib.hid hsame
          clear hsame
          go_wp2_with fail
          refine (rd_Err HS1.out.rd).mono ?_
          rintro y w3 ⟨rfl, rfl⟩
          by_cases he : s'.e = 0
          · have hpl : (Lib.uvarint (rdBool s).1.toNat).length + s'.b.length = s.b.length := by rw [← Hsame.out he, List.length_append]
            rw [he]
            go_wp2_with fail
            refine (wr_Bool HS1.out.wr (by omega)).mono ?_
            rintro y w4 ⟨rfl, hw, hX⟩
            have HS2 := Lib.hid (HS1.out.wrote hX hw hS)
            clear hX hw HS1
            go_wp2_with fail
            refine (rd_Err HS2.out.rd).mono ?_
            rintro y w5 ⟨rfl, rfl⟩
            rw [he]
            go_wp2_with fail
            have hnew : (out ++ (Lib.uvarint (rdBool s).1.toNat)) ++ s'.b = b := by rw [List.append_assoc, Hsame.out he]; exact Hsb.out
            have Hnew := Lib.hid hnew
            have He := Lib.hid he
            clear hnew he
            go_roundw
            case rel => exact ⟨k + 1, s', out ++ (Lib.uvarint (rdBool s).1.toNat), by omega, by omega, by go_num, He.out, Hnew.out, HS2.out⟩
            case measure => simp [intOf] <;> omega
          · have t1 : (s'.e == 0) = false := by simpa using he
            have t2 : (s'.e != 0) = true := by simpa using he
            clear he
            go_wp2_with fail
            refine (rd_Err HS1.out.rd).mono ?_
            rintro y w4 ⟨rfl, rfl⟩
            go_wp2_with fail
            refine (awake_true).mono ?_
            rintro y w5 ⟨rfl, hX⟩
            have HS2 := Lib.hid (HS1.out.below hX)
            clear hX HS1
            go_wp2_with fail
            refine (wr_Out HS2.out.wr (by omega)).mono ?_
            rintro y w6 ⟨po, co, rfl, ho, hX⟩
            have HS3 := Lib.hid (HS2.out.below hX)
            have HO := Lib.hid ho
            clear ho hX HS2
            go_wp2_with fail
            refine (bytes_HasPrefix HS3.out.rb HO.out.rd Hsb.out).mono ?_
            rintro y w7 ⟨rfl, rfl⟩
            go_wp2_with fail
            go_ret
            exact ⟨rfl, HS3.out.bel⟩
        · go_wp2_with fail
          refine (rd_Bytes (most := 1000) HS.out.rd HS.out.la (by decide) (by omega)).mono ?_
          rintro y w2 ⟨vx, rfl, ho, hr, hX⟩
          obtain ⟨px, cx, rfl⟩ := ho.slice
          have HOx := Lib.hid ho
          have HBx := Lib.hid (OwnIn.of ho)
          have hzs := HS.out.bel.size
          clear ho
          have HS1 := Lib.hid (HS.out.read hX hr hS)
          have hw1 := HS.out.wr.lt
          have hz1 := hX.size
          clear hX hr HS
          obtain ⟨s', hs'⟩ : ∃ s', (rdBytes s 1000).2 = s' := ⟨_, rfl⟩
          have hsame : s'.e = 0 → (lenBytes (rdBytes s 1000).1) ++ s'.b = s.b := by rw [← hs']; exact rdBytes_same Hse.out
          rw [hs'] at HS1
          clear hs'
          have Hsame := Lib.hid hsame
          clear hsame
          go_wp2_with fail
          refine (rd_Err HS1.out.rd).mono ?_
          rintro y w3 ⟨rfl, rfl⟩
          by_cases he : s'.e = 0
          · have hbl3 : (rdBytes s 1000).1.length ≤ (lenBytes (rdBytes s 1000).1).length := by unfold lenBytes; rw [List.length_append]; omega
            have hpl : (lenBytes (rdBytes s 1000).1).length + s'.b.length = s.b.length := by rw [← Hsame.out he, List.length_append]
            rw [he]
            go_wp2_with fail
            refine (wr_Bytes HS1.out.wr HBx.out.rd (NilOk.own HOx.out) (by show ¬ (_ ∧ _); omega) (by omega)).mono ?_
            rintro y w4 ⟨rfl, hw, hX⟩
            have HS2 := Lib.hid (HS1.out.wrote hX hw hS)
            clear hX hw HS1
            go_wp2_with fail
            refine (rd_Err HS2.out.rd).mono ?_
            rintro y w5 ⟨rfl, rfl⟩
            rw [he]
            go_wp2_with fail
            have hnew : (out ++ (lenBytes (rdBytes s 1000).1)) ++ s'.b = b := by rw [List.append_assoc, Hsame.out he]; exact Hsb.out
            have Hnew := Lib.hid hnew
            have He := Lib.hid he
            clear hnew he
            go_roundw
            case rel => exact ⟨k + 1, s', out ++ (lenBytes (rdBytes s 1000).1), by omega, by omega, by go_num, He.out, Hnew.out, HS2.out⟩
            case measure => simp [intOf] <;> omega
          · have t1 : (s'.e == 0) = false := by simpa using he
            have t2 : (s'.e != 0) = true := by simpa using he
            clear he
            go_wp2_with fail
            refine (rd_Err HS1.out.rd).mono ?_
            rintro y w4 ⟨rfl, rfl⟩
            go_wp2_with fail
            refine (awake_true).mono ?_
            rintro y w5 ⟨rfl, hX⟩
            have HS2 := Lib.hid (HS1.out.below hX)
            clear hX HS1
            go_wp2_with fail
            refine (wr_Out HS2.out.wr (by omega)).mono ?_
            rintro y w6 ⟨po, co, rfl, ho, hX⟩
            have HS3 := Lib.hid (HS2.out.below hX)
            have HO := Lib.hid ho
            clear ho hX HS2
            go_wp2_with fail
            refine (bytes_HasPrefix HS3.out.rb HO.out.rd Hsb.out).mono ?_
            rintro y w7 ⟨rfl, rfl⟩
            go_wp2_with fail
            go_ret
            exact ⟨rfl, HS3.out.bel⟩
        · go_wp2_with fail
          refine (rd_Str (most := 1000) HS.out.rd HS.out.la (by decide) (by omega)).mono ?_
          rintro y w2 ⟨rfl, hr, hX⟩
          have HS1 := Lib.hid (HS.out.read hX hr hS)
          have hw1 := HS.out.wr.lt
          have hz1 := hX.size
          clear hX hr HS
          obtain ⟨s', hs'⟩ : ∃ s', (rdBytes s 1000).2 = s' := ⟨_, rfl⟩
          have hsame : s'.e = 0 → (lenBytes (rdBytes s 1000).1) ++ s'.b = s.b := by rw [← hs']; exact rdBytes_same Hse.out
          rw [hs'] at HS1
          clear hs'
          have Hsame := Lib.hid hsame
          clear hsame
          go_wp2_with fail
          refine (rd_Err HS1.out.rd).mono ?_
          rintro y w3 ⟨rfl, rfl⟩
          by_cases he : s'.e = 0
          · have hbl3 : (rdBytes s 1000).1.length ≤ (lenBytes (rdBytes s 1000).1).length := by unfold lenBytes; rw [List.length_append]; omega
            have hpl : (lenBytes (rdBytes s 1000).1).length + s'.b.length = s.b.length := by rw [← Hsame.out he, List.length_append]
            rw [he]
            go_wp2_with fail
            refine (wr_Str HS1.out.wr (by omega)).mono ?_
            rintro y w4 ⟨rfl, hw, hX⟩
            have HS2 := Lib.hid (HS1.out.wrote hX hw hS)
            clear hX hw HS1
            go_wp2_with fail
            refine (rd_Err HS2.out.rd).mono ?_
            rintro y w5 ⟨rfl, rfl⟩
            rw [he]
            go_wp2_with fail
            have hnew : (out ++ (lenBytes (rdBytes s 1000).1)) ++ s'.b = b := by rw [List.append_assoc, Hsame.out he]; exact Hsb.out
            have Hnew := Lib.hid hnew
            have He := Lib.hid he
            clear hnew he
            go_roundw
            case rel => exact ⟨k + 1, s', out ++ (lenBytes (rdBytes s 1000).1), by omega, by omega, by go_num, He.out, Hnew.out, HS2.out⟩
            case measure => simp [intOf] <;> omega
          · have t1 : (s'.e == 0) = false := by simpa using he
            have t2 : (s'.e != 0) = true := by simpa using he
            clear he
            go_wp2_with fail
            refine (rd_Err HS1.out.rd).mono ?_
            rintro y w4 ⟨rfl, rfl⟩
            go_wp2_with fail
            refine (awake_true).mono ?_
            rintro y w5 ⟨rfl, hX⟩
            have HS2 := Lib.hid (HS1.out.below hX)
            clear hX HS1
            go_wp2_with fail
            refine (wr_Out HS2.out.wr (by omega)).mono ?_
            rintro y w6 ⟨po, co, rfl, ho, hX⟩
            have HS3 := Lib.hid (HS2.out.below hX)
            have HO := Lib.hid ho
            clear ho hX HS2
            go_wp2_with fail
            refine (bytes_HasPrefix HS3.out.rb HO.out.rd Hsb.out).mono ?_
            rintro y w7 ⟨rfl, rfl⟩
            go_wp2_with fail
            go_ret
            exact ⟨rfl, HS3.out.bel⟩
    · obtain rfl : k = ls.length := by omega
      go_wp2_with fail
      refine (wr_Out HS.out.wr (by omega)).mono ?_
      rintro y w2 ⟨po, co, rfl, ho, hX⟩
      have HS2 := Lib.hid (HS.out.below hX)
      have HO := Lib.hid ho
      clear ho hX HS
      go_wp2_with fail
      refine (awake_true).mono ?_
      rintro y w3 ⟨rfl, hX⟩
      have HS3 := Lib.hid (HS2.out.below hX)
      have HO3 := Lib.hid (HO.out.rd.below hX)
      clear hX HS2 HO
      go_wp2_with fail
      refine (bytes_HasPrefix HS3.out.rb HO3.out Hsb.out).mono ?_
      rintro y w4 ⟨rfl, rfl⟩
      go_wp2_with fail
      refine (rd_Left HS3.out.rd).mono ?_
      rintro y w4 ⟨rfl, rfl⟩
      have hle : (rdLeft s : Int) = (b.length : Int) - (out.length : Int) := by unfold rdLeft; rw [if_pos Hse.out]; omega
      rw [hle]
      go_wp2_with fail
      go_ret
      exact ⟨rfl, HS3.out.bel⟩
end Go.Proofs.Ytgmlgdfgooacbaa
