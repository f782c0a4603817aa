/-
  copybooklaw03.written: what a record of things is; the contract. Condition: at most 60 things that can be read. (Printed by wip/gen_wback.py.)
-/
import Derived.Test.YtgmlgdfgooacbaaThing
import Derived.Test.YtgmlgdfgooacbaaLaw03
namespace Go.Proofs.Ytgmlgdfgooacbaa
open Go.RowKit
set_option linter.unusedSimpArgs false
set_option linter.unusedVariables false

/-- A thing's bytes in a record. -/
def piece (t : Thing) : List UInt8 :=
  if t.what = 1 then Lib.uvarint (Lib.zigzag (IntKind.i64.wrap (t.n : Int)))
  else if t.what = 2 then Lib.uvarint (t.n % 2)
  else if t.what = 3 then lenBytes (t.b.take 300)
  else if t.what = 4 then lenBytes (t.b.take 300)
  else Lib.uvarint t.n
def wrote (ts : List Thing) : List UInt8 := ts.flatMap piece
theorem wrap_bounds (n : Nat) : -9223372036854775808 ≤ IntKind.i64.wrap (n : Int) ∧ IntKind.i64.wrap (n : Int) ≤ 9223372036854775807 := by rw [IntKind.wrap_i64]; omega
theorem lb_len (b : List UInt8) (h : b.length ≤ 300) : (lenBytes b).length ≤ 310 := by
  unfold lenBytes
  rw [List.length_append]
  have := Lib.uvarint_length64 (x := b.length) (by omega)
  omega
theorem take_le (l : List UInt8) : (l.take 300).length ≤ 300 := by rw [List.length_take]; omega
theorem piece_len {t : Thing} (h : t.n < 18446744073709551616) : (piece t).length ≤ 310 := by
  unfold piece
  split
  · have := Lib.uvarint_length64 (Lib.zigzag_lt (wrap_bounds t.n).1 (wrap_bounds t.n).2); omega
  · split
    · have := Lib.uvarint_length64 (x := t.n % 2) (by omega); omega
    · split
      · exact lb_len _ (take_le _)
      · split
        · exact lb_len _ (take_le _)
        · have := Lib.uvarint_length64 h; omega
theorem wrote_snoc (ts : List Thing) (k : Nat) (h : k < ts.length) : wrote (ts.take (k + 1)) = wrote (ts.take k) ++ piece ts[k] := by
  unfold wrote
  rw [take_snoc ts k h, List.flatMap_append]
  simp
theorem bool_mod (n : Nat) : (((n : Int) % 2 == 1)).toNat = n % 2 := by
  rcases (show n % 2 = 0 ∨ n % 2 = 1 from by omega) with e | e
  · rw [show ((n : Int) % 2 == 1) = false from by simp; omega, e]; rfl
  · rw [show ((n : Int) % 2 == 1) = true from by simp; omega, e]; rfl
theorem ThingsRd.ext {M S : Nat → Prop} {w w' : World} {v : Value} {ts : List Thing} (h : ThingsRd w S v ts) (hX : Ext M w w') (hM : ∀ k, S k → ¬ M k) : ThingsRd w' S v ts := by
  obtain ⟨cs, hr, hE⟩ := h
  exact ⟨cs, Rd.ext hr hX hM (by decide), hE.imp fun c t _ ⟨s, h1, h2, h3⟩ => ⟨s, h1, Rd.ext h2 hX hM (by decide), h3⟩⟩

set_option maxHeartbeats 6400000 in
set_option maxRecDepth 100000 in
theorem written_any {w : World} {S : Nat → Prop} {v : Value} {ts : List Thing} (h : ThingsRd w S v ts) (hok : ThingsOk ts) (hS : ∀ k, S k → k < w.heap.size) (h60 : ts.length ≤ 60) :
    Calls Try.prog 34 #[v] w fun x w' => ∃ p c, x = .returned (.slice p (wrote ts).length c) ∧ CmdOwn w' w.heap.size (.slice p (wrote ts).length c) (wrote ts) ∧ Below w.heap.size w w' := by
  obtain ⟨cs, hr, -⟩ := id h
  obtain ⟨p, c, rfl⟩ := Rd.slice hr
  have H := Lib.hid h
  have Hok := Lib.hid hok
  clear hr h hok
  go_enter Try.func34, Try.ntmps34
  go_wp2_with fail
  go_loopw [9] (fun i wr => ∃ (k : Nat) (bs : List UInt8), k ≤ ts.length ∧ i = .int .i64 k ∧ wrote (ts.take k) = bs ∧ bs.length ≤ k * 310 ∧ Below w.heap.size w wr ∧ WrAt wr (w.heap.size + 1) wr.heap.size w.heap.size bs ∧ ThingsRd wr S (.slice p ts.length c) ts) (fun i _ => ts.length - (intOf i).toNat)
  case atStart =>
    have hX := (Below.refl w.heap.size w).alloc (Nat.le_refl _) (.cells #[.slice none 0 0] 25)
    exact ⟨0, [], Nat.zero_le _, rfl, rfl, Nat.le_refl _, hX, ⟨_, Blk.new w _ _, OwnIn.nil _ _ _⟩, H.out.below hX⟩
  case round =>
    clear H
    obtain ⟨k, bs, hk, rfl, hbs, hbl, hb, hw, ht⟩ := hrel
    have HB := Lib.hid hb
    have HW := Lib.hid hw
    have HT := Lib.hid ht
    have Hbs := Lib.hid hbs
    clear hb hw ht hbs
    by_cases hlt : k < ts.length
    · have hok := Hok.out ts[k] (List.getElem_mem hlt)
      have hsn := wrote_snoc ts k hlt
      rw [Hbs.out] at hsn
      obtain ⟨bk, off, qb, db, he, e0, e1, e2, hq, hnil, hbd, hbd2⟩ := HT.out.at_ hlt
      subst he
      unfold maxLen at hbd2
      have hpl := piece_len hok.1
      have hpc : piece ts[k] = piece ts[k] := rfl
      unfold piece at hsn hpl
      clear hpc
      generalize ts[k]'hlt = t at *
      obtain ⟨what, n, b0⟩ := t
      simp only at e0 e1 e2 hq hnil hbd hok hsn hpl
      obtain ⟨b, hb, hb300, hbl2⟩ : ∃ b, b0.take 300 = b ∧ b.length ≤ 300 ∧ b.length ≤ b0.length := ⟨_, rfl, by rw [List.length_take]; omega, by rw [List.length_take]; omega⟩
      have hm : (if (300 : Int) < (b0.length : Int) then (300 : Int) else (b0.length : Int)) = (b.length : Int) := by rw [← hb, List.length_take]; split <;> omega
      have hbr : CmdRd wr S (.slice qb b.length db) b := by
        have h := hq.front hbl2
        rw [← hb, List.length_take, ← List.take_take, List.take_length] at h
        rw [← hb, List.length_take]
        exact h
      have hb1 := (Below.refl wr.heap.size wr).alloc (Nat.le_refl _) (.cells #[.int .i64 what, .int .u64 n, .slice qb b0.length db] 28)
      have hwl := HW.out.lt
      have HB1 := Lib.hid (HB.out.trans (hb1.mono HB.out.size))
      have HW1 := Lib.hid ((HW.out.below hb1).mono (Nat.le_refl _) hb1.size)
      have HT1 := Lib.hid (HT.out.below hb1)
      have Hb1 := Lib.hid (CmdRd.below hbr hb1)
      have HN := Lib.hid (CmdRd.nilfront (k := b.length) hnil)
      have hn := hok.1
      have hSw : ¬ S w.heap.size := fun h => absurd (hS _ h) (by omega)
      rw [hb] at hsn hpl
      have Hsn := Lib.hid hsn
      clear hbr hnil hq hok hb hb1 HB HW HT hsn
      by_cases h1 : what = 1
      · subst h1
        have hx := wrap_bounds n
        have hpl2 := hpl
        rw [if_pos rfl] at hpl2
        obtain ⟨x1, hx1⟩ : ∃ x1 : Int, IntKind.i64.wrap (n : Int) = x1 := ⟨_, rfl⟩
        rw [hx1] at hx hpl2
        have Hsm := Lib.hid (show wrote (ts.take (k + 1)) = bs ++ Lib.uvarint (Lib.zigzag x1) from by
          have hsn := Hsn.out
          rw [if_pos rfl, hx1] at hsn
          exact hsn)
        go_wp2_with fail
        refine (wr_Int (x := x1) HW1.out hx.1 hx.2 (by omega)).mono ?_
        rintro x w2 ⟨rfl, hwr, hX⟩
        have hsn := Hsm.out
        have HT2 := Lib.hid (HT1.out.ext hX (fun g h e => hSw (by have : g = w.heap.size := e; subst this; exact h)))
        have HB2 := Lib.hid (Ext.from HB1.out hX (fun g e => by have : g = w.heap.size := e; omega))
        have HW2 := Lib.hid (hwr.mono (lo' := w.heap.size + 1) (by rw [World.size_alloc]; omega) (Nat.le_refl _))
        have Hsn2 := Lib.hid hsn
        clear hx1 hpl hwr hX hsn HT1 HB1 HW1 Hb1 HN
        go_wp2_with fail
        go_roundw
        case rel => exact ⟨k + 1, _, by omega, by go_num, Hsn2.out, by rw [List.length_append]; omega, HB2.out, HW2.out, HT2.out⟩
        case measure => simp [intOf] <;> omega
      by_cases h2 : what = 2
      · subst h2
        have hpl2 := hpl
        rw [if_neg (by decide), if_pos rfl] at hpl2
        obtain ⟨y1, hy1⟩ : ∃ y1 : Bool, ((n : Int) % 2 == 1) = y1 := ⟨_, rfl⟩
        have hbm := bool_mod n
        rw [hy1] at hbm
        rw [← hbm] at hpl2
        have Hbm := Lib.hid hbm
        clear hbm
        have Hsm := Lib.hid (show wrote (ts.take (k + 1)) = bs ++ Lib.uvarint y1.toNat from by
          have hsn := Hsn.out
          rw [if_neg (by decide), if_pos rfl, ← Hbm.out] at hsn
          exact hsn)
        go_wp2_with fail
        refine (wr_Bool (x := y1) HW1.out (by omega)).mono ?_
        rintro x w2 ⟨rfl, hwr, hX⟩
        have hsn := Hsm.out
        have HT2 := Lib.hid (HT1.out.ext hX (fun g h e => hSw (by have : g = w.heap.size := e; subst this; exact h)))
        have HB2 := Lib.hid (Ext.from HB1.out hX (fun g e => by have : g = w.heap.size := e; omega))
        have HW2 := Lib.hid (hwr.mono (lo' := w.heap.size + 1) (by rw [World.size_alloc]; omega) (Nat.le_refl _))
        have Hsn2 := Lib.hid hsn
        clear hpl hwr hX hsn HT1 HB1 HW1 Hb1 HN
        go_wp2_with fail
        go_roundw
        case rel => exact ⟨k + 1, _, by omega, by go_num, Hsn2.out, by rw [List.length_append]; omega, HB2.out, HW2.out, HT2.out⟩
        case measure => simp [intOf] <;> omega
      by_cases h3 : what = 3
      · subst h3
        have hpl2 := hpl
        rw [if_neg (by decide), if_neg (by decide), if_pos rfl] at hpl2
        have Hsm := Lib.hid (show wrote (ts.take (k + 1)) = bs ++ lenBytes b from by
          have hsn := Hsn.out
          rw [if_neg (by decide), if_neg (by decide), if_pos rfl] at hsn
          exact hsn)
        go_wp2_with fail
        refine (wr_Bytes HW1.out Hb1.out HN.out hSw (by omega)).mono ?_
        rintro x w2 ⟨rfl, hwr, hX⟩
        have hsn := Hsm.out
        have HT2 := Lib.hid (HT1.out.ext hX (fun g h e => hSw (by have : g = w.heap.size := e; subst this; exact h)))
        have HB2 := Lib.hid (Ext.from HB1.out hX (fun g e => by have : g = w.heap.size := e; omega))
        have HW2 := Lib.hid (hwr.mono (lo' := w.heap.size + 1) (by rw [World.size_alloc]; omega) (Nat.le_refl _))
        have Hsn2 := Lib.hid hsn
        clear hpl hwr hX hsn HT1 HB1 HW1 Hb1 HN
        go_wp2_with fail
        go_roundw
        case rel => exact ⟨k + 1, _, by omega, by go_num, Hsn2.out, by rw [List.length_append]; omega, HB2.out, HW2.out, HT2.out⟩
        case measure => simp [intOf] <;> omega
      by_cases h4 : what = 4
      · subst h4
        have hpl2 := hpl
        rw [if_neg (by decide), if_neg (by decide), if_neg (by decide), if_pos rfl] at hpl2
        have hs := Rd.str Hb1.out
        have Hsm := Lib.hid (show wrote (ts.take (k + 1)) = bs ++ lenBytes b from by
          have hsn := Hsn.out
          rw [if_neg (by decide), if_neg (by decide), if_neg (by decide), if_pos rfl] at hsn
          exact hsn)
        go_wp2_with fail
        refine (wr_Str (b := b) HW1.out (by omega)).mono ?_
        rintro x w2 ⟨rfl, hwr, hX⟩
        have hsn := Hsm.out
        have HT2 := Lib.hid (HT1.out.ext hX (fun g h e => hSw (by have : g = w.heap.size := e; subst this; exact h)))
        have HB2 := Lib.hid (Ext.from HB1.out hX (fun g e => by have : g = w.heap.size := e; omega))
        have HW2 := Lib.hid (hwr.mono (lo' := w.heap.size + 1) (by rw [World.size_alloc]; omega) (Nat.le_refl _))
        have Hsn2 := Lib.hid hsn
        clear hs hpl hwr hX hsn HT1 HB1 HW1 Hb1 HN
        go_wp2_with fail
        go_roundw
        case rel => exact ⟨k + 1, _, by omega, by go_num, Hsn2.out, by rw [List.length_append]; omega, HB2.out, HW2.out, HT2.out⟩
        case measure => simp [intOf] <;> omega
      have hpl2 := hpl
      rw [if_neg h1, if_neg h2, if_neg h3, if_neg h4] at hpl2
      have Hsn := Lib.hid (show wrote (ts.take (k + 1)) = bs ++ Lib.uvarint n from by have h := Hsn.out; rw [if_neg h1, if_neg h2, if_neg h3, if_neg h4] at h; exact h)
      have t1 : (what == 1) = false := by simpa using h1
      have t2 : (what == 2) = false := by simpa using h2
      have t3 : (what == 3) = false := by simpa using h3
      have t4 : (what == 4) = false := by simpa using h4
      clear h1 h2 h3 h4 hpl
      skip
      have Hsm := Lib.hid (show wrote (ts.take (k + 1)) = bs ++ Lib.uvarint n from by
        have hsn := Hsn.out
        skip
        exact hsn)
      go_wp2_with fail
      refine (wr_Num (n := n) HW1.out hn (by omega)).mono ?_
      rintro x w2 ⟨rfl, hwr, hX⟩
      have hsn := Hsm.out
      have HT2 := Lib.hid (HT1.out.ext hX (fun g h e => hSw (by have : g = w.heap.size := e; subst this; exact h)))
      have HB2 := Lib.hid (Ext.from HB1.out hX (fun g e => by have : g = w.heap.size := e; omega))
      have HW2 := Lib.hid (hwr.mono (lo' := w.heap.size + 1) (by rw [World.size_alloc]; omega) (Nat.le_refl _))
      have Hsn2 := Lib.hid hsn
      clear hwr hX hsn HT1 HB1 HW1 Hb1 HN
      go_wp2_with fail
      go_roundw
      case rel => exact ⟨k + 1, _, by omega, by go_num, Hsn2.out, by rw [List.length_append]; omega, HB2.out, HW2.out, HT2.out⟩
      case measure => simp [intOf] <;> omega
    · obtain rfl : k = ts.length := by omega
      have hbs := Hbs.out
      rw [List.take_length] at hbs
      have HE := Lib.hid hbs
      clear hbs Hbs
      go_wp2_with fail
      refine (wr_Out HW.out (by omega)).mono ?_
      rintro x w2 ⟨p2, c2, rfl, ho, hX⟩
      have HO := Lib.hid (ho.base HB.out.size)
      have HX := Lib.hid (HB.out.trans (hX.mono HB.out.size))
      clear ho hX
      go_wp2_with fail
      go_ret
      rw [HE.out]
      exact ⟨p2, c2, rfl, HO.out, HX.out⟩
end Go.Proofs.Ytgmlgdfgooacbaa
