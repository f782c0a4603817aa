/-
  WireWrites: the walk. Condition: the things can be read. (Printed by wip/gen_ww.py.)
-/
import Derived.Test.YtgmlgdfgooacbaaThing
namespace Go.Proofs.Ytgmlgdfgooacbaa
open Go.RowKit
set_option linter.unusedSimpArgs false
set_option linter.unusedVariables false

/-- What the loop keeps: what was written and what is wanted are the same bytes. -/
structure Ww (w : World) (S : Nat → Prop) (v : Value) (ts : List Thing) (k : Nat) (vw : Value) (bs : List UInt8) (W : World) : Prop where
  b : Below w.heap.size w W
  len : bs.length ≤ k * 320
  want : OwnIn W (w.heap.size + 1) W.heap.size vw bs
  wr : WrAt W (w.heap.size + 1) W.heap.size w.heap.size bs
  ts : ThingsRd W S v ts
theorem Ww.below {w W W' : World} {S : Nat → Prop} {v vw : Value} {ts : List Thing} {k : Nat} {bs : List UInt8} (h : Ww w S v ts k vw bs W) (hX : Below W.heap.size W W') : Ww w S v ts k vw bs W' :=
  ⟨h.b.trans (hX.mono h.b.size), h.len, (h.want.below hX).mono (Nat.le_refl _) hX.size, (h.wr.below hX).mono (Nat.le_refl _) hX.size, h.ts.below hX⟩

theorem ThingsRd.ext {M S : Nat → Prop} {w w' : World} {v : Value} {ts : List Thing} (h : ThingsRd w S v ts) (hX : Ext M w w') (hM : ∀ k, S k → ¬ M k) : ThingsRd w' S v ts := by
  obtain ⟨cs, hr, hE⟩ := h
  exact ⟨cs, Rd.ext hr hX hM (by decide), hE.imp fun c t _ ⟨s, h1, h2, h3⟩ => ⟨s, h1, Rd.ext h2 hX hM (by decide), h3⟩⟩

/-- The same, apart from the blocks from lo on, below hi. -/
structure Mid (w : World) (S : Nat → Prop) (v : Value) (ts : List Thing) (k : Nat) (vw : Value) (bs : List UInt8) (lo hi : Nat) (W : World) : Prop where
  b : Below w.heap.size w W
  len : bs.length ≤ k * 320
  want : ∃ l h, OwnIn W l h vw bs ∧ w.heap.size < l ∧ h ≤ W.heap.size ∧ (hi ≤ l ∨ h ≤ lo)
  wr : ∃ l h, WrAt W l h w.heap.size bs ∧ w.heap.size < l ∧ h ≤ W.heap.size ∧ (hi ≤ l ∨ h ≤ lo)
  ts : ThingsRd W S v ts
  lo : w.heap.size < lo
section
variable {w W W' : World} {S : Nat → Prop} {v vw : Value} {ts : List Thing} {k lo hi : Nat} {bs : List UInt8}
theorem Mid.ext {M : Nat → Prop} (h : Mid w S v ts k vw bs lo hi W) (hX : Ext M W W') (hM : ∀ g, M g → lo ≤ g ∧ g < hi) (hS : ∀ k, S k → k < w.heap.size) : Mid w S v ts k vw bs lo hi W' := by
  obtain ⟨b, len, ⟨l1, h1, o1, a1, c1, d1⟩, ⟨l2, h2, o2, a2, c2, d2⟩, t, hlo⟩ := h
  have hz := hX.size
  refine ⟨Ext.from b hX (fun g hg => by have := hM g hg; omega), len, ⟨l1, h1, o1.ext hX (fun g x y z => by have := hM g z; omega), a1, by omega, d1⟩, ⟨l2, h2, o2.ext hX (fun g x y z => by have := hM g z; omega) (fun z => by have := hM _ z; omega), a2, by omega, d2⟩, t.ext hX (fun g x z => by have := hS g x; have := hM g z; omega), hlo⟩
theorem Mid.below (h : Mid w S v ts k vw bs lo hi W) (hX : Below W.heap.size W W') : Mid w S v ts k vw bs lo hi W' := by
  obtain ⟨b, len, ⟨l1, h1, o1, a1, c1, d1⟩, ⟨l2, h2, o2, a2, c2, d2⟩, t, hlo⟩ := h
  have hz := hX.size
  exact ⟨b.trans (hX.mono b.size), len, ⟨l1, h1, o1.below hX, a1, by omega, d1⟩, ⟨l2, h2, o2.below hX, a2, by omega, d2⟩, t.below hX, hlo⟩
theorem Mid.ww (h : Mid w S v ts k vw bs lo hi W) : Ww w S v ts k vw bs W := by
  obtain ⟨b, len, ⟨l1, h1, o1, a1, c1, d1⟩, ⟨l2, h2, o2, a2, c2, d2⟩, t, hlo⟩ := h
  exact ⟨b, len, o1.mono a1 c1, o2.mono a2 c2, t⟩
theorem Ww.mid (h : Ww w S v ts k vw bs W) (hl : W.heap.size ≤ lo) : Mid w S v ts k vw bs lo hi W :=
  ⟨h.b, h.len, ⟨_, _, h.want, Nat.lt_succ_self _, Nat.le_refl _, .inr hl⟩, ⟨_, _, h.wr, Nat.lt_succ_self _, Nat.le_refl _, .inr hl⟩, h.ts, by have := h.wr.lt; omega⟩
theorem Mid.step {k' : Nat} (h : Mid w S v ts k vw bs lo hi W) (hk : k ≤ k') : Mid w S v ts k' vw bs lo hi W :=
  { h with len := Nat.le_trans h.len (Nat.mul_le_mul_right _ hk) }
end
theorem OwnIn.sp {w : World} {lo hi c : Nat} {p : Option Addr} {bs : List UInt8} (h : OwnIn w lo hi (.slice p bs.length c) bs) : SpRow w lo p bs.length c ∧ ∀ g, p = some ⟨g, 0, none⟩ → lo ≤ g ∧ g < hi :=
  ⟨⟨bs, h.1⟩, fun g e => by subst e; exact ⟨(h.1.lt g rfl).1, h.2 g rfl⟩⟩

theorem lb_len (b : List UInt8) (h : b.length ≤ 300) : (lenBytes b).length ≤ 310 := by
  unfold lenBytes
  rw [List.length_append]
  have := Lib.uvarint_length64 (x := b.length) (by omega)
  omega

set_option maxHeartbeats 12000000 in
set_option maxRecDepth 100000 in
theorem writes_walk {w : World} {S : Nat → Prop} {v : Value} {ts : List Thing} (h : ThingsRd w S v ts) (hok : ThingsOk ts) (hS : ∀ k, S k → k < w.heap.size) :
    Calls Try.prog 3 #[v] w fun x w' => x = .returned (.bool true) ∧ Below w.heap.size w w' := by
  obtain ⟨cs, hr, -⟩ := id h
  obtain ⟨p, c, rfl⟩ := Rd.slice hr
  have hlen := Rd.le hr
  have hlc : ts.length ≤ c := by obtain ⟨_, _, _, h, h1, _⟩ := hr; injection h with _ _ h; omega
  unfold maxLen at hlen
  have H := Lib.hid h
  have Hok := Lib.hid hok
  clear hr h hok
  go_enter Try.func3, Try.ntmps3
  go_wp2_with fail
  go_loopw [4, 14] (fun vw i wr => ∃ (k : Nat) (bs : List UInt8) (q : Option Addr) (d : Nat), k ≤ ts.length ∧ k ≤ 60 ∧ i = .int .i64 k ∧ vw = .slice q bs.length d ∧ Ww w S (.slice p ts.length c) ts k vw bs wr) (fun _ i _ => ts.length - (intOf i).toNat)
  case atStart =>
    have hX := (Below.refl w.heap.size w).alloc (Nat.le_refl _) (.cells #[.slice none 0 0] 25)
    exact ⟨0, [], none, 0, Nat.zero_le _, Nat.zero_le _, rfl, rfl, hX, Nat.zero_le _, OwnIn.nil _ _ _, ⟨_, Blk.new w _ _, OwnIn.nil _ _ _⟩, H.out.below hX⟩
  case round =>
    obtain ⟨k, bs, q, d, hk, hk60, rfl, rfl, hw⟩ := hrel
    have HW := Lib.hid hw
    have hbl := hw.len
    clear hw
    by_cases hlt : k < ts.length
    · by_cases h60 : k = 60
      · subst h60
        obtain ⟨bk, off, qb, db, he, e0, e1, e2, -, -, hbd, hbd2⟩ := HW.out.ts.at_ hlt
        subst he
        have HW := Lib.hid (HW.out.below ((Below.refl wr.heap.size wr).alloc (Nat.le_refl _) (.cells #[.int .i64 ts[60].what, .int .u64 ts[60].n, .slice qb ts[60].b.length db] 28)))
        go_wp2_with fail
        refine (awake_true).mono ?_
        rintro x w1 ⟨rfl, hX⟩
        have HW1 := Lib.hid (HW.out.below hX)
        clear hX HW
        go_wp2_with fail
        refine (wr_Out HW1.out.wr (by omega)).mono ?_
        rintro x w2 ⟨p2, c2, rfl, ho, hX⟩
        have HW2 := Lib.hid (HW1.out.below hX)
        have HO2 := Lib.hid ho
        clear hX ho HW1
        go_wp2_with fail
        refine (bytes_Equal HO2.out.rd HW2.out.want.rd).mono ?_
        rintro x w3 ⟨rfl, rfl⟩
        rw [show (bs == bs) = true from by simp]
        go_wp2_with fail
        go_ret
        exact ⟨rfl, HW2.out.b⟩
      · have hok := Hok.out ts[k] (List.getElem_mem hlt)
        obtain ⟨bk, off, qb, db, he, e0, e1, e2, hq, hnil, hbd, hbd2⟩ := HW.out.ts.at_ hlt
        subst he
        unfold maxLen at hbd2
        obtain ⟨b, hb, hb300, hbl2⟩ : ∃ b, ts[k].b.take 300 = b ∧ b.length ≤ 300 ∧ b.length ≤ ts[k].b.length := ⟨_, rfl, by rw [List.length_take]; omega, by rw [List.length_take]; omega⟩
        have hm : (if (300 : Int) < (ts[k].b.length : Int) then (300 : Int) else (ts[k].b.length : Int)) = (b.length : Int) := by rw [← hb, List.length_take]; split <;> omega
        have hbr : CmdRd wr S (.slice qb b.length db) b := by
          have h := hq.front hbl2
          rw [← hb, List.length_take, ← List.take_take, List.take_length] at h
          rw [← hb, List.length_take]
          exact h
        have HB := Lib.hid hbr
        have HN := Lib.hid (CmdRd.nilfront (k := b.length) hnil)
        have hn := hok.1
        have Hb := Lib.hid hb
        clear hbr hnil hq hok hb
        generalize htn : ts[k].n = n at *
        generalize htw : ts[k].what = what at *
        generalize htb : ts[k].b.length = bl at *
        clear htn htw htb
        have hb1 := (Below.refl wr.heap.size wr).alloc (Nat.le_refl _) (.cells #[.int .i64 what, .int .u64 n, .slice qb bl db] 28)
        have K0 := Blk.new wr 28 #[.int .i64 what, .int .u64 n, .slice qb bl db]
        have hszr := HW.out.b.size
        have hwrlt := HW.out.wr.lt
        go_wp2_with fail
        refine (ref_Own (HB.out.below hb1) HN.out (by omega)).mono ?_
        rintro x w1 ⟨vo, rfl, ho, hX⟩
        obtain ⟨po, co, rfl⟩ := ho.slice
        rw [World.size_alloc] at ho
        obtain ⟨lo1, hlo1⟩ : ∃ n, wr.heap.size + 1 = n := ⟨_, rfl⟩
        rw [hlo1] at ho
        have hX1 := hb1.trans (hX.mono hb1.size)
        have hz1 := hX.size
        rw [World.size_alloc] at hz1
        have HW1 := Lib.hid (HW.out.below hX1)
        have HB1 := Lib.hid (HB.out.below hX1)
        have HO1 := Lib.hid (OwnIn.of ho)
        have K1 := Blk.below K0 hX
        have HMo := Lib.hid (((HW.out.mid (lo := lo1) (hi := w1.heap.size) (by omega)).below hX1).step (k' := k + 1) (by omega))
        have HNw := Lib.hid (NilOk.own HW1.out.want.1)
        have hSw : ¬ S w.heap.size := fun h => absurd (hS _ h) (by omega)
        have HK1 := Lib.hid K1
        obtain ⟨m0, m1, m2, g0, g1, g2, hzt⟩ := K1.c3
        clear hb1 K0 ho hX hX1 K1 HW HB
        by_cases h0 : what = 0
        · subst h0
          have hu := Lib.uvarint_length64 hn
          go_wp2_with fail
          refine (wr_Num (n := n) HW1.out.wr hn (by omega)).mono ?_
          rintro x w2 ⟨rfl, hwr, hX⟩
          have hz2 := hX.size
          have HV2 := Lib.hid (HW1.out.want.ext hX (fun g h1 h2 e => by have : g = w.heap.size := e; omega))
          have HO2 := Lib.hid (HO1.out.ext hX (fun g h1 h2 e => by have : g = w.heap.size := e; omega))
          have HB2 := Lib.hid (Rd.ext HB1.out hX (fun g h e => hSw (by have : g = w.heap.size := e; subst this; exact h)) (by decide))
          have HT2 := Lib.hid (HW1.out.ts.ext hX (fun g h e => hSw (by have : g = w.heap.size := e; subst this; exact h)))
          have hb2 := Ext.from HW1.out.b hX (fun g e => by have : g = w.heap.size := e; omega)
          have HBl2 := Lib.hid hb2
          have HWr2 := Lib.hid hwr
          have K2 := Blk.ext HK1.out hX (by show ¬ wr.heap.size = w.heap.size; omega)
          clear m0 m1 m2 g0 g1 g2 hzt hwr hX hb2
          obtain ⟨m0, m1, m2, g0, g1, g2, hzt⟩ := K2.c3
          clear K2
          go_wp2_with fail
          refine (ref_Put (n := n) HV2.out.rd HNw.out hn (by omega)).mono ?_
          rintro x w3 ⟨v3, rfl, ho, hX⟩
          obtain ⟨l, hl⟩ : ∃ l, bs ++ Lib.uvarint n = l := ⟨_, rfl⟩
          have hll : l.length ≤ (k + 1) * 320 := by rw [← hl, List.length_append]; omega
          have hwr3 := HWr2.out.below hX
          rw [hl] at ho hwr3
          obtain ⟨q1, d1, rfl⟩ := ho.slice
          have hz3 := hX.size
          have HM := Lib.hid (show Mid w S (.slice (some ⟨bk, off, none⟩) ts.length c) ts (k + 1) (.slice q1 l.length d1) l lo1 w1.heap.size w3 from
            ⟨HBl2.out.trans (hX.mono HBl2.out.size), hll, ⟨_, _, OwnIn.of ho, by omega, Nat.le_refl _, .inl hz2⟩, ⟨_, _, hwr3, by omega, hz3, .inl (Nat.le_refl _)⟩, HT2.out.below hX, by omega⟩)
          have HO := Lib.hid (HO2.out.below hX)
          clear ho hX hwr3 hl HV2 HO2 HB2 HT2 HBl2 HWr2 HW1 HB1 HO1 HMo HK1 m0 m1 m2 g0 g1 g2 hzt HNw HN
          have hsp := HO.out.sp
          have HS := Lib.hid hsp.1
          have HG := Lib.hid hsp.2
          clear hsp HO
          go_wp2_with fail
          go_loopw [82] (fun i ww => ∃ j : Nat, j ≤ b.length ∧ i = .int .i64 j ∧ SpRow ww lo1 po b.length co ∧ Mid w S (.slice (some ⟨bk, off, none⟩) ts.length c) ts (k + 1) (.slice q1 l.length d1) l lo1 w1.heap.size ww) (fun i _ => b.length - (intOf i).toNat)
          case atStart => exact ⟨0, Nat.zero_le _, rfl, HS.out, HM.out⟩
          case round =>
            clear HS HM
            obtain ⟨j, hj, rfl, hsp, hmid⟩ := hrel
            have HS1 := Lib.hid hsp
            have HM1 := Lib.hid hmid
            clear hsp hmid
            by_cases hjl : j < b.length
            · obtain ⟨g, hge⟩ := HS1.out.form (by omega)
              have hgr := HG.out g hge
              subst hge
              obtain ⟨⟨x, hx0⟩, hxf, hg1, hg2, hcc⟩ := HS1.out.cell hjl
              obtain ⟨y, hy, hxor⟩ := xor255 x
              go_wp2_with fail
              go_roundw
              case rel => exact ⟨j + 1, by omega, by go_num, HS1.out.stored y hy, HM1.out.ext (M := fun k => k = g) ((Ext.refl _ _).set1 rfl) (fun g' e => by have : g' = g := e; omega) hS⟩
              case measure => simp [intOf] <;> omega
            · obtain rfl : j = b.length := by omega
              clear hjl hj
              have hlen := HM1.out.len
              have hw4 := HM1.out.ww
              have Hw4 := Lib.hid hw4
              clear hw4 HS1 HM1 HG
              go_wp2_with fail
              refine (wr_Out Hw4.out.wr (by omega)).mono ?_
              rintro x w5 ⟨p5, c5, rfl, ho, hX⟩
              obtain ⟨lo2, hlo2⟩ : ∃ n, wr.heap.size = n := ⟨_, rfl⟩
              have Hw5 := Lib.hid (Hw4.out.below hX)
              rw [hlo2] at ho
              have HS5 := Lib.hid (show SpRow w5 lo2 p5 l.length c5 from ⟨l, ho⟩)
              have HG5 := Lib.hid (OwnIn.of ho).sp.2
              have HM5 := Lib.hid ((Hw4.out.mid (lo := lo2) (hi := w5.heap.size) (by omega)).below hX)
              have HO5 := Lib.hid ho
              clear ho hX Hw4 hlo2
              go_wp2_with fail
              refine (bytes_Equal HO5.out.rd Hw5.out.want.rd).mono ?_
              rintro x w6 ⟨rfl, rfl⟩
              rw [show (l == l) = true from by simp]
              clear Hw5 HO5
              go_wp2_with fail
              go_loopw [99] (fun i ww => ∃ j : Nat, j ≤ l.length ∧ i = .int .i64 j ∧ SpRow ww lo2 p5 l.length c5 ∧ Mid w S (.slice (some ⟨bk, off, none⟩) ts.length c) ts (k + 1) (.slice q1 l.length d1) l lo2 w5.heap.size ww) (fun i _ => l.length - (intOf i).toNat)
              case atStart => exact ⟨0, Nat.zero_le _, rfl, HS5.out, HM5.out⟩
              case round =>
                clear HS5 HM5
                obtain ⟨j, hj, rfl, hsp, hmid⟩ := hrel
                have HS1 := Lib.hid hsp
                have HM1 := Lib.hid hmid
                clear hsp hmid
                by_cases hjl : j < l.length
                · obtain ⟨g, hge⟩ := HS1.out.form (by omega)
                  have hgr := HG5.out g hge
                  subst hge
                  obtain ⟨⟨x, hx0⟩, hxf, hg1, hg2, hcc⟩ := HS1.out.cell hjl
                  obtain ⟨y, hy, hxor⟩ := xor255 x
                  go_wp2_with fail
                  go_roundw
                  case rel => exact ⟨j + 1, by omega, by go_num, HS1.out.stored y hy, HM1.out.ext (M := fun k => k = g) ((Ext.refl _ _).set1 rfl) (fun g' e => by have : g' = g := e; omega) hS⟩
                  case measure => simp [intOf] <;> omega
                · obtain rfl : j = l.length := by omega
                  clear hjl hj
                  have Hw6 := Lib.hid HM1.out.ww
                  clear HS1 HM1 HG5
                  go_wp2_with fail
                  go_roundw
                  case rel => exact ⟨k + 1, l, q1, d1, by omega, by omega, by go_num, rfl, Hw6.out⟩
                  case measure => simp [intOf] <;> omega
        by_cases h1 : what = 1
        · subst h1
          obtain ⟨x1, hx1⟩ : ∃ x1 : Int, IntKind.i64.wrap (n : Int) = x1 := ⟨_, rfl⟩
          have hx : -9223372036854775808 ≤ x1 ∧ x1 ≤ 9223372036854775807 := by rw [← hx1, IntKind.wrap_i64]; omega
          have hu := Lib.uvarint_length64 (Lib.zigzag_lt hx.1 hx.2)
          go_wp2_with fail
          refine (wr_Int (x := x1) HW1.out.wr hx.1 hx.2 (by omega)).mono ?_
          rintro x w2 ⟨rfl, hwr, hX⟩
          have hz2 := hX.size
          have HV2 := Lib.hid (HW1.out.want.ext hX (fun g h1 h2 e => by have : g = w.heap.size := e; omega))
          have HO2 := Lib.hid (HO1.out.ext hX (fun g h1 h2 e => by have : g = w.heap.size := e; omega))
          have HB2 := Lib.hid (Rd.ext HB1.out hX (fun g h e => hSw (by have : g = w.heap.size := e; subst this; exact h)) (by decide))
          have HT2 := Lib.hid (HW1.out.ts.ext hX (fun g h e => hSw (by have : g = w.heap.size := e; subst this; exact h)))
          have hb2 := Ext.from HW1.out.b hX (fun g e => by have : g = w.heap.size := e; omega)
          have HBl2 := Lib.hid hb2
          have HWr2 := Lib.hid hwr
          have K2 := Blk.ext HK1.out hX (by show ¬ wr.heap.size = w.heap.size; omega)
          clear m0 m1 m2 g0 g1 g2 hzt hwr hX hb2
          obtain ⟨m0, m1, m2, g0, g1, g2, hzt⟩ := K2.c3
          clear K2
          go_wp2_with fail
          refine (ref_Fold hx.1 hx.2).mono ?_
          rintro x w2' ⟨rfl, rfl⟩
          go_wp2_with fail
          refine (ref_Put (n := Lib.zigzag x1) HV2.out.rd HNw.out (Lib.zigzag_lt hx.1 hx.2) (by omega)).mono ?_
          rintro x w3 ⟨v3, rfl, ho, hX⟩
          obtain ⟨l, hl⟩ : ∃ l, bs ++ Lib.uvarint (Lib.zigzag x1) = l := ⟨_, rfl⟩
          have hll : l.length ≤ (k + 1) * 320 := by rw [← hl, List.length_append]; omega
          have hwr3 := HWr2.out.below hX
          rw [hl] at ho hwr3
          obtain ⟨q1, d1, rfl⟩ := ho.slice
          have hz3 := hX.size
          have HM := Lib.hid (show Mid w S (.slice (some ⟨bk, off, none⟩) ts.length c) ts (k + 1) (.slice q1 l.length d1) l lo1 w1.heap.size w3 from
            ⟨HBl2.out.trans (hX.mono HBl2.out.size), hll, ⟨_, _, OwnIn.of ho, by omega, Nat.le_refl _, .inl hz2⟩, ⟨_, _, hwr3, by omega, hz3, .inl (Nat.le_refl _)⟩, HT2.out.below hX, by omega⟩)
          have HO := Lib.hid (HO2.out.below hX)
          clear ho hX hwr3 hl HV2 HO2 HB2 HT2 HBl2 HWr2 HW1 HB1 HO1 HMo HK1 m0 m1 m2 g0 g1 g2 hzt HNw HN
          have hsp := HO.out.sp
          have HS := Lib.hid hsp.1
          have HG := Lib.hid hsp.2
          clear hsp HO
          go_wp2_with fail
          go_loopw [82] (fun i ww => ∃ j : Nat, j ≤ b.length ∧ i = .int .i64 j ∧ SpRow ww lo1 po b.length co ∧ Mid w S (.slice (some ⟨bk, off, none⟩) ts.length c) ts (k + 1) (.slice q1 l.length d1) l lo1 w1.heap.size ww) (fun i _ => b.length - (intOf i).toNat)
          case atStart => exact ⟨0, Nat.zero_le _, rfl, HS.out, HM.out⟩
          case round =>
            clear HS HM
            obtain ⟨j, hj, rfl, hsp, hmid⟩ := hrel
            have HS1 := Lib.hid hsp
            have HM1 := Lib.hid hmid
            clear hsp hmid
            by_cases hjl : j < b.length
            · obtain ⟨g, hge⟩ := HS1.out.form (by omega)
              have hgr := HG.out g hge
              subst hge
              obtain ⟨⟨x, hx0⟩, hxf, hg1, hg2, hcc⟩ := HS1.out.cell hjl
              obtain ⟨y, hy, hxor⟩ := xor255 x
              go_wp2_with fail
              go_roundw
              case rel => exact ⟨j + 1, by omega, by go_num, HS1.out.stored y hy, HM1.out.ext (M := fun k => k = g) ((Ext.refl _ _).set1 rfl) (fun g' e => by have : g' = g := e; omega) hS⟩
              case measure => simp [intOf] <;> omega
            · obtain rfl : j = b.length := by omega
              clear hjl hj
              have hlen := HM1.out.len
              have hw4 := HM1.out.ww
              have Hw4 := Lib.hid hw4
              clear hw4 HS1 HM1 HG
              go_wp2_with fail
              refine (wr_Out Hw4.out.wr (by omega)).mono ?_
              rintro x w5 ⟨p5, c5, rfl, ho, hX⟩
              obtain ⟨lo2, hlo2⟩ : ∃ n, wr.heap.size = n := ⟨_, rfl⟩
              have Hw5 := Lib.hid (Hw4.out.below hX)
              rw [hlo2] at ho
              have HS5 := Lib.hid (show SpRow w5 lo2 p5 l.length c5 from ⟨l, ho⟩)
              have HG5 := Lib.hid (OwnIn.of ho).sp.2
              have HM5 := Lib.hid ((Hw4.out.mid (lo := lo2) (hi := w5.heap.size) (by omega)).below hX)
              have HO5 := Lib.hid ho
              clear ho hX Hw4 hlo2
              go_wp2_with fail
              refine (bytes_Equal HO5.out.rd Hw5.out.want.rd).mono ?_
              rintro x w6 ⟨rfl, rfl⟩
              rw [show (l == l) = true from by simp]
              clear Hw5 HO5
              go_wp2_with fail
              go_loopw [99] (fun i ww => ∃ j : Nat, j ≤ l.length ∧ i = .int .i64 j ∧ SpRow ww lo2 p5 l.length c5 ∧ Mid w S (.slice (some ⟨bk, off, none⟩) ts.length c) ts (k + 1) (.slice q1 l.length d1) l lo2 w5.heap.size ww) (fun i _ => l.length - (intOf i).toNat)
              case atStart => exact ⟨0, Nat.zero_le _, rfl, HS5.out, HM5.out⟩
              case round =>
                clear HS5 HM5
                obtain ⟨j, hj, rfl, hsp, hmid⟩ := hrel
                have HS1 := Lib.hid hsp
                have HM1 := Lib.hid hmid
                clear hsp hmid
                by_cases hjl : j < l.length
                · obtain ⟨g, hge⟩ := HS1.out.form (by omega)
                  have hgr := HG5.out g hge
                  subst hge
                  obtain ⟨⟨x, hx0⟩, hxf, hg1, hg2, hcc⟩ := HS1.out.cell hjl
                  obtain ⟨y, hy, hxor⟩ := xor255 x
                  go_wp2_with fail
                  go_roundw
                  case rel => exact ⟨j + 1, by omega, by go_num, HS1.out.stored y hy, HM1.out.ext (M := fun k => k = g) ((Ext.refl _ _).set1 rfl) (fun g' e => by have : g' = g := e; omega) hS⟩
                  case measure => simp [intOf] <;> omega
                · obtain rfl : j = l.length := by omega
                  clear hjl hj
                  have Hw6 := Lib.hid HM1.out.ww
                  clear HS1 HM1 HG5
                  go_wp2_with fail
                  go_roundw
                  case rel => exact ⟨k + 1, l, q1, d1, by omega, by omega, by go_num, rfl, Hw6.out⟩
                  case measure => simp [intOf] <;> omega
        by_cases h2 : what = 2
        · subst h2
          obtain ⟨y1, hy1⟩ : ∃ y1 : Bool, ((n : Int) % 2 == 1) = y1 := ⟨_, rfl⟩
          have hyn : (n : Int) % 2 = (y1.toNat : Int) := by
            cases y1
            · have : ¬ (n : Int) % 2 = 1 := by simpa using hy1
              show (n : Int) % 2 = 0
              omega
            · have : (n : Int) % 2 = 1 := by simpa using hy1
              show (n : Int) % 2 = 1
              omega
          have hy2 : y1.toNat ≤ 1 := by cases y1 <;> decide
          have hu := Lib.uvarint_length64 (x := y1.toNat) (by omega)
          have Hyn := Lib.hid hyn
          clear hyn
          go_wp2_with fail
          refine (wr_Bool (x := y1) HW1.out.wr (by omega)).mono ?_
          rintro x w2 ⟨rfl, hwr, hX⟩
          have hz2 := hX.size
          have HV2 := Lib.hid (HW1.out.want.ext hX (fun g h1 h2 e => by have : g = w.heap.size := e; omega))
          have HO2 := Lib.hid (HO1.out.ext hX (fun g h1 h2 e => by have : g = w.heap.size := e; omega))
          have HB2 := Lib.hid (Rd.ext HB1.out hX (fun g h e => hSw (by have : g = w.heap.size := e; subst this; exact h)) (by decide))
          have HT2 := Lib.hid (HW1.out.ts.ext hX (fun g h e => hSw (by have : g = w.heap.size := e; subst this; exact h)))
          have hb2 := Ext.from HW1.out.b hX (fun g e => by have : g = w.heap.size := e; omega)
          have HBl2 := Lib.hid hb2
          have HWr2 := Lib.hid hwr
          have K2 := Blk.ext HK1.out hX (by show ¬ wr.heap.size = w.heap.size; omega)
          clear m0 m1 m2 g0 g1 g2 hzt hwr hX hb2
          obtain ⟨m0, m1, m2, g0, g1, g2, hzt⟩ := K2.c3
          clear K2
          go_wp2_with fail
          rw [Hyn.out]
          refine (ref_Put (n := y1.toNat) HV2.out.rd HNw.out (by omega) (by omega)).mono ?_
          rintro x w3 ⟨v3, rfl, ho, hX⟩
          obtain ⟨l, hl⟩ : ∃ l, bs ++ Lib.uvarint y1.toNat = l := ⟨_, rfl⟩
          have hll : l.length ≤ (k + 1) * 320 := by rw [← hl, List.length_append]; omega
          have hwr3 := HWr2.out.below hX
          rw [hl] at ho hwr3
          obtain ⟨q1, d1, rfl⟩ := ho.slice
          have hz3 := hX.size
          have HM := Lib.hid (show Mid w S (.slice (some ⟨bk, off, none⟩) ts.length c) ts (k + 1) (.slice q1 l.length d1) l lo1 w1.heap.size w3 from
            ⟨HBl2.out.trans (hX.mono HBl2.out.size), hll, ⟨_, _, OwnIn.of ho, by omega, Nat.le_refl _, .inl hz2⟩, ⟨_, _, hwr3, by omega, hz3, .inl (Nat.le_refl _)⟩, HT2.out.below hX, by omega⟩)
          have HO := Lib.hid (HO2.out.below hX)
          clear ho hX hwr3 hl HV2 HO2 HB2 HT2 HBl2 HWr2 HW1 HB1 HO1 HMo HK1 m0 m1 m2 g0 g1 g2 hzt HNw HN
          have hsp := HO.out.sp
          have HS := Lib.hid hsp.1
          have HG := Lib.hid hsp.2
          clear hsp HO
          go_wp2_with fail
          go_loopw [82] (fun i ww => ∃ j : Nat, j ≤ b.length ∧ i = .int .i64 j ∧ SpRow ww lo1 po b.length co ∧ Mid w S (.slice (some ⟨bk, off, none⟩) ts.length c) ts (k + 1) (.slice q1 l.length d1) l lo1 w1.heap.size ww) (fun i _ => b.length - (intOf i).toNat)
          case atStart => exact ⟨0, Nat.zero_le _, rfl, HS.out, HM.out⟩
          case round =>
            clear HS HM
            obtain ⟨j, hj, rfl, hsp, hmid⟩ := hrel
            have HS1 := Lib.hid hsp
            have HM1 := Lib.hid hmid
            clear hsp hmid
            by_cases hjl : j < b.length
            · obtain ⟨g, hge⟩ := HS1.out.form (by omega)
              have hgr := HG.out g hge
              subst hge
              obtain ⟨⟨x, hx0⟩, hxf, hg1, hg2, hcc⟩ := HS1.out.cell hjl
              obtain ⟨y, hy, hxor⟩ := xor255 x
              go_wp2_with fail
              go_roundw
              case rel => exact ⟨j + 1, by omega, by go_num, HS1.out.stored y hy, HM1.out.ext (M := fun k => k = g) ((Ext.refl _ _).set1 rfl) (fun g' e => by have : g' = g := e; omega) hS⟩
              case measure => simp [intOf] <;> omega
            · obtain rfl : j = b.length := by omega
              clear hjl hj
              have hlen := HM1.out.len
              have hw4 := HM1.out.ww
              have Hw4 := Lib.hid hw4
              clear hw4 HS1 HM1 HG
              go_wp2_with fail
              refine (wr_Out Hw4.out.wr (by omega)).mono ?_
              rintro x w5 ⟨p5, c5, rfl, ho, hX⟩
              obtain ⟨lo2, hlo2⟩ : ∃ n, wr.heap.size = n := ⟨_, rfl⟩
              have Hw5 := Lib.hid (Hw4.out.below hX)
              rw [hlo2] at ho
              have HS5 := Lib.hid (show SpRow w5 lo2 p5 l.length c5 from ⟨l, ho⟩)
              have HG5 := Lib.hid (OwnIn.of ho).sp.2
              have HM5 := Lib.hid ((Hw4.out.mid (lo := lo2) (hi := w5.heap.size) (by omega)).below hX)
              have HO5 := Lib.hid ho
              clear ho hX Hw4 hlo2
              go_wp2_with fail
              refine (bytes_Equal HO5.out.rd Hw5.out.want.rd).mono ?_
              rintro x w6 ⟨rfl, rfl⟩
              rw [show (l == l) = true from by simp]
              clear Hw5 HO5
              go_wp2_with fail
              go_loopw [99] (fun i ww => ∃ j : Nat, j ≤ l.length ∧ i = .int .i64 j ∧ SpRow ww lo2 p5 l.length c5 ∧ Mid w S (.slice (some ⟨bk, off, none⟩) ts.length c) ts (k + 1) (.slice q1 l.length d1) l lo2 w5.heap.size ww) (fun i _ => l.length - (intOf i).toNat)
              case atStart => exact ⟨0, Nat.zero_le _, rfl, HS5.out, HM5.out⟩
              case round =>
                clear HS5 HM5
                obtain ⟨j, hj, rfl, hsp, hmid⟩ := hrel
                have HS1 := Lib.hid hsp
                have HM1 := Lib.hid hmid
                clear hsp hmid
                by_cases hjl : j < l.length
                · obtain ⟨g, hge⟩ := HS1.out.form (by omega)
                  have hgr := HG5.out g hge
                  subst hge
                  obtain ⟨⟨x, hx0⟩, hxf, hg1, hg2, hcc⟩ := HS1.out.cell hjl
                  obtain ⟨y, hy, hxor⟩ := xor255 x
                  go_wp2_with fail
                  go_roundw
                  case rel => exact ⟨j + 1, by omega, by go_num, HS1.out.stored y hy, HM1.out.ext (M := fun k => k = g) ((Ext.refl _ _).set1 rfl) (fun g' e => by have : g' = g := e; omega) hS⟩
                  case measure => simp [intOf] <;> omega
                · obtain rfl : j = l.length := by omega
                  clear hjl hj
                  have Hw6 := Lib.hid HM1.out.ww
                  clear HS1 HM1 HG5
                  go_wp2_with fail
                  go_roundw
                  case rel => exact ⟨k + 1, l, q1, d1, by omega, by omega, by go_num, rfl, Hw6.out⟩
                  case measure => simp [intOf] <;> omega
        by_cases h3 : what = 3
        · subst h3
          have hu := lb_len b hb300
          go_wp2_with fail
          refine (wr_Bytes HW1.out.wr HO1.out.rd (NilOk.own HO1.out.1) (by show ¬ (_ ∧ _); omega) (by omega)).mono ?_
          rintro x w2 ⟨rfl, hwr, hX⟩
          have hz2 := hX.size
          have HV2 := Lib.hid (HW1.out.want.ext hX (fun g h1 h2 e => by have : g = w.heap.size := e; omega))
          have HO2 := Lib.hid (HO1.out.ext hX (fun g h1 h2 e => by have : g = w.heap.size := e; omega))
          have HB2 := Lib.hid (Rd.ext HB1.out hX (fun g h e => hSw (by have : g = w.heap.size := e; subst this; exact h)) (by decide))
          have HT2 := Lib.hid (HW1.out.ts.ext hX (fun g h e => hSw (by have : g = w.heap.size := e; subst this; exact h)))
          have hb2 := Ext.from HW1.out.b hX (fun g e => by have : g = w.heap.size := e; omega)
          have HBl2 := Lib.hid hb2
          have HWr2 := Lib.hid hwr
          have K2 := Blk.ext HK1.out hX (by show ¬ wr.heap.size = w.heap.size; omega)
          clear m0 m1 m2 g0 g1 g2 hzt hwr hX hb2
          obtain ⟨m0, m1, m2, g0, g1, g2, hzt⟩ := K2.c3
          clear K2
          go_wp2_with fail
          refine (ref_Bytes HV2.out.rd HNw.out HB2.out HN.out (by omega)).mono ?_
          rintro x w3 ⟨v3, rfl, ho, hX⟩
          obtain ⟨l, hl⟩ : ∃ l, bs ++ lenBytes b = l := ⟨_, rfl⟩
          have hll : l.length ≤ (k + 1) * 320 := by rw [← hl, List.length_append]; omega
          have hwr3 := HWr2.out.below hX
          rw [hl] at ho hwr3
          obtain ⟨q1, d1, rfl⟩ := ho.slice
          have hz3 := hX.size
          have HM := Lib.hid (show Mid w S (.slice (some ⟨bk, off, none⟩) ts.length c) ts (k + 1) (.slice q1 l.length d1) l lo1 w1.heap.size w3 from
            ⟨HBl2.out.trans (hX.mono HBl2.out.size), hll, ⟨_, _, OwnIn.of ho, by omega, Nat.le_refl _, .inl hz2⟩, ⟨_, _, hwr3, by omega, hz3, .inl (Nat.le_refl _)⟩, HT2.out.below hX, by omega⟩)
          have HO := Lib.hid (HO2.out.below hX)
          clear ho hX hwr3 hl HV2 HO2 HB2 HT2 HBl2 HWr2 HW1 HB1 HO1 HMo HK1 m0 m1 m2 g0 g1 g2 hzt HNw HN
          have hsp := HO.out.sp
          have HS := Lib.hid hsp.1
          have HG := Lib.hid hsp.2
          clear hsp HO
          go_wp2_with fail
          go_loopw [82] (fun i ww => ∃ j : Nat, j ≤ b.length ∧ i = .int .i64 j ∧ SpRow ww lo1 po b.length co ∧ Mid w S (.slice (some ⟨bk, off, none⟩) ts.length c) ts (k + 1) (.slice q1 l.length d1) l lo1 w1.heap.size ww) (fun i _ => b.length - (intOf i).toNat)
          case atStart => exact ⟨0, Nat.zero_le _, rfl, HS.out, HM.out⟩
          case round =>
            clear HS HM
            obtain ⟨j, hj, rfl, hsp, hmid⟩ := hrel
            have HS1 := Lib.hid hsp
            have HM1 := Lib.hid hmid
            clear hsp hmid
            by_cases hjl : j < b.length
            · obtain ⟨g, hge⟩ := HS1.out.form (by omega)
              have hgr := HG.out g hge
              subst hge
              obtain ⟨⟨x, hx0⟩, hxf, hg1, hg2, hcc⟩ := HS1.out.cell hjl
              obtain ⟨y, hy, hxor⟩ := xor255 x
              go_wp2_with fail
              go_roundw
              case rel => exact ⟨j + 1, by omega, by go_num, HS1.out.stored y hy, HM1.out.ext (M := fun k => k = g) ((Ext.refl _ _).set1 rfl) (fun g' e => by have : g' = g := e; omega) hS⟩
              case measure => simp [intOf] <;> omega
            · obtain rfl : j = b.length := by omega
              clear hjl hj
              have hlen := HM1.out.len
              have hw4 := HM1.out.ww
              have Hw4 := Lib.hid hw4
              clear hw4 HS1 HM1 HG
              go_wp2_with fail
              refine (wr_Out Hw4.out.wr (by omega)).mono ?_
              rintro x w5 ⟨p5, c5, rfl, ho, hX⟩
              obtain ⟨lo2, hlo2⟩ : ∃ n, wr.heap.size = n := ⟨_, rfl⟩
              have Hw5 := Lib.hid (Hw4.out.below hX)
              rw [hlo2] at ho
              have HS5 := Lib.hid (show SpRow w5 lo2 p5 l.length c5 from ⟨l, ho⟩)
              have HG5 := Lib.hid (OwnIn.of ho).sp.2
              have HM5 := Lib.hid ((Hw4.out.mid (lo := lo2) (hi := w5.heap.size) (by omega)).below hX)
              have HO5 := Lib.hid ho
              clear ho hX Hw4 hlo2
              go_wp2_with fail
              refine (bytes_Equal HO5.out.rd Hw5.out.want.rd).mono ?_
              rintro x w6 ⟨rfl, rfl⟩
              rw [show (l == l) = true from by simp]
              clear Hw5 HO5
              go_wp2_with fail
              go_loopw [99] (fun i ww => ∃ j : Nat, j ≤ l.length ∧ i = .int .i64 j ∧ SpRow ww lo2 p5 l.length c5 ∧ Mid w S (.slice (some ⟨bk, off, none⟩) ts.length c) ts (k + 1) (.slice q1 l.length d1) l lo2 w5.heap.size ww) (fun i _ => l.length - (intOf i).toNat)
              case atStart => exact ⟨0, Nat.zero_le _, rfl, HS5.out, HM5.out⟩
              case round =>
                clear HS5 HM5
                obtain ⟨j, hj, rfl, hsp, hmid⟩ := hrel
                have HS1 := Lib.hid hsp
                have HM1 := Lib.hid hmid
                clear hsp hmid
                by_cases hjl : j < l.length
                · obtain ⟨g, hge⟩ := HS1.out.form (by omega)
                  have hgr := HG5.out g hge
                  subst hge
                  obtain ⟨⟨x, hx0⟩, hxf, hg1, hg2, hcc⟩ := HS1.out.cell hjl
                  obtain ⟨y, hy, hxor⟩ := xor255 x
                  go_wp2_with fail
                  go_roundw
                  case rel => exact ⟨j + 1, by omega, by go_num, HS1.out.stored y hy, HM1.out.ext (M := fun k => k = g) ((Ext.refl _ _).set1 rfl) (fun g' e => by have : g' = g := e; omega) hS⟩
                  case measure => simp [intOf] <;> omega
                · obtain rfl : j = l.length := by omega
                  clear hjl hj
                  have Hw6 := Lib.hid HM1.out.ww
                  clear HS1 HM1 HG5
                  go_wp2_with fail
                  go_roundw
                  case rel => exact ⟨k + 1, l, q1, d1, by omega, by omega, by go_num, rfl, Hw6.out⟩
                  case measure => simp [intOf] <;> omega
        by_cases h4 : what = 4
        · subst h4
          have hu := lb_len b hb300
          have hs := Rd.str HB1.out
          go_wp2_with fail
          clear hs
          refine (wr_Str (b := b) HW1.out.wr (by omega)).mono ?_
          rintro x w2 ⟨rfl, hwr, hX⟩
          have hz2 := hX.size
          have HV2 := Lib.hid (HW1.out.want.ext hX (fun g h1 h2 e => by have : g = w.heap.size := e; omega))
          have HO2 := Lib.hid (HO1.out.ext hX (fun g h1 h2 e => by have : g = w.heap.size := e; omega))
          have HB2 := Lib.hid (Rd.ext HB1.out hX (fun g h e => hSw (by have : g = w.heap.size := e; subst this; exact h)) (by decide))
          have HT2 := Lib.hid (HW1.out.ts.ext hX (fun g h e => hSw (by have : g = w.heap.size := e; subst this; exact h)))
          have hb2 := Ext.from HW1.out.b hX (fun g e => by have : g = w.heap.size := e; omega)
          have HBl2 := Lib.hid hb2
          have HWr2 := Lib.hid hwr
          have K2 := Blk.ext HK1.out hX (by show ¬ wr.heap.size = w.heap.size; omega)
          clear m0 m1 m2 g0 g1 g2 hzt hwr hX hb2
          obtain ⟨m0, m1, m2, g0, g1, g2, hzt⟩ := K2.c3
          clear K2
          go_wp2_with fail
          refine (ref_Bytes HV2.out.rd HNw.out HB2.out HN.out (by omega)).mono ?_
          rintro x w3 ⟨v3, rfl, ho, hX⟩
          obtain ⟨l, hl⟩ : ∃ l, bs ++ lenBytes b = l := ⟨_, rfl⟩
          have hll : l.length ≤ (k + 1) * 320 := by rw [← hl, List.length_append]; omega
          have hwr3 := HWr2.out.below hX
          rw [hl] at ho hwr3
          obtain ⟨q1, d1, rfl⟩ := ho.slice
          have hz3 := hX.size
          have HM := Lib.hid (show Mid w S (.slice (some ⟨bk, off, none⟩) ts.length c) ts (k + 1) (.slice q1 l.length d1) l lo1 w1.heap.size w3 from
            ⟨HBl2.out.trans (hX.mono HBl2.out.size), hll, ⟨_, _, OwnIn.of ho, by omega, Nat.le_refl _, .inl hz2⟩, ⟨_, _, hwr3, by omega, hz3, .inl (Nat.le_refl _)⟩, HT2.out.below hX, by omega⟩)
          have HO := Lib.hid (HO2.out.below hX)
          clear ho hX hwr3 hl HV2 HO2 HB2 HT2 HBl2 HWr2 HW1 HB1 HO1 HMo HK1 m0 m1 m2 g0 g1 g2 hzt HNw HN
          have hsp := HO.out.sp
          have HS := Lib.hid hsp.1
          have HG := Lib.hid hsp.2
          clear hsp HO
          go_wp2_with fail
          go_loopw [82] (fun i ww => ∃ j : Nat, j ≤ b.length ∧ i = .int .i64 j ∧ SpRow ww lo1 po b.length co ∧ Mid w S (.slice (some ⟨bk, off, none⟩) ts.length c) ts (k + 1) (.slice q1 l.length d1) l lo1 w1.heap.size ww) (fun i _ => b.length - (intOf i).toNat)
          case atStart => exact ⟨0, Nat.zero_le _, rfl, HS.out, HM.out⟩
          case round =>
            clear HS HM
            obtain ⟨j, hj, rfl, hsp, hmid⟩ := hrel
            have HS1 := Lib.hid hsp
            have HM1 := Lib.hid hmid
            clear hsp hmid
            by_cases hjl : j < b.length
            · obtain ⟨g, hge⟩ := HS1.out.form (by omega)
              have hgr := HG.out g hge
              subst hge
              obtain ⟨⟨x, hx0⟩, hxf, hg1, hg2, hcc⟩ := HS1.out.cell hjl
              obtain ⟨y, hy, hxor⟩ := xor255 x
              go_wp2_with fail
              go_roundw
              case rel => exact ⟨j + 1, by omega, by go_num, HS1.out.stored y hy, HM1.out.ext (M := fun k => k = g) ((Ext.refl _ _).set1 rfl) (fun g' e => by have : g' = g := e; omega) hS⟩
              case measure => simp [intOf] <;> omega
            · obtain rfl : j = b.length := by omega
              clear hjl hj
              have hlen := HM1.out.len
              have hw4 := HM1.out.ww
              have Hw4 := Lib.hid hw4
              clear hw4 HS1 HM1 HG
              go_wp2_with fail
              refine (wr_Out Hw4.out.wr (by omega)).mono ?_
              rintro x w5 ⟨p5, c5, rfl, ho, hX⟩
              obtain ⟨lo2, hlo2⟩ : ∃ n, wr.heap.size = n := ⟨_, rfl⟩
              have Hw5 := Lib.hid (Hw4.out.below hX)
              rw [hlo2] at ho
              have HS5 := Lib.hid (show SpRow w5 lo2 p5 l.length c5 from ⟨l, ho⟩)
              have HG5 := Lib.hid (OwnIn.of ho).sp.2
              have HM5 := Lib.hid ((Hw4.out.mid (lo := lo2) (hi := w5.heap.size) (by omega)).below hX)
              have HO5 := Lib.hid ho
              clear ho hX Hw4 hlo2
              go_wp2_with fail
              refine (bytes_Equal HO5.out.rd Hw5.out.want.rd).mono ?_
              rintro x w6 ⟨rfl, rfl⟩
              rw [show (l == l) = true from by simp]
              clear Hw5 HO5
              go_wp2_with fail
              go_loopw [99] (fun i ww => ∃ j : Nat, j ≤ l.length ∧ i = .int .i64 j ∧ SpRow ww lo2 p5 l.length c5 ∧ Mid w S (.slice (some ⟨bk, off, none⟩) ts.length c) ts (k + 1) (.slice q1 l.length d1) l lo2 w5.heap.size ww) (fun i _ => l.length - (intOf i).toNat)
              case atStart => exact ⟨0, Nat.zero_le _, rfl, HS5.out, HM5.out⟩
              case round =>
                clear HS5 HM5
                obtain ⟨j, hj, rfl, hsp, hmid⟩ := hrel
                have HS1 := Lib.hid hsp
                have HM1 := Lib.hid hmid
                clear hsp hmid
                by_cases hjl : j < l.length
                · obtain ⟨g, hge⟩ := HS1.out.form (by omega)
                  have hgr := HG5.out g hge
                  subst hge
                  obtain ⟨⟨x, hx0⟩, hxf, hg1, hg2, hcc⟩ := HS1.out.cell hjl
                  obtain ⟨y, hy, hxor⟩ := xor255 x
                  go_wp2_with fail
                  go_roundw
                  case rel => exact ⟨j + 1, by omega, by go_num, HS1.out.stored y hy, HM1.out.ext (M := fun k => k = g) ((Ext.refl _ _).set1 rfl) (fun g' e => by have : g' = g := e; omega) hS⟩
                  case measure => simp [intOf] <;> omega
                · obtain rfl : j = l.length := by omega
                  clear hjl hj
                  have Hw6 := Lib.hid HM1.out.ww
                  clear HS1 HM1 HG5
                  go_wp2_with fail
                  go_roundw
                  case rel => exact ⟨k + 1, l, q1, d1, by omega, by omega, by go_num, rfl, Hw6.out⟩
                  case measure => simp [intOf] <;> omega
        · obtain ⟨l, hl⟩ : ∃ l, bs = l := ⟨_, rfl⟩
          subst hl
          have HM := HMo
          have HO := HO1
          have t0 : (what == 0) = false := by simpa using h0
          have t1 : (what == 1) = false := by simpa using h1
          have t2 : (what == 2) = false := by simpa using h2
          have t3 : (what == 3) = false := by simpa using h3
          have t4 : (what == 4) = false := by simpa using h4
          clear HW1 HB1 HO1 HMo HK1 HNw HN h0 h1 h2 h3 h4
          have hsp := HO.out.sp
          have HS := Lib.hid hsp.1
          have HG := Lib.hid hsp.2
          clear hsp HO
          go_wp2_with fail
          go_loopw [82] (fun i ww => ∃ j : Nat, j ≤ b.length ∧ i = .int .i64 j ∧ SpRow ww lo1 po b.length co ∧ Mid w S (.slice (some ⟨bk, off, none⟩) ts.length c) ts (k + 1) (.slice q bs.length d) bs lo1 w1.heap.size ww) (fun i _ => b.length - (intOf i).toNat)
          case atStart => exact ⟨0, Nat.zero_le _, rfl, HS.out, HM.out⟩
          case round =>
            clear HS HM
            obtain ⟨j, hj, rfl, hsp, hmid⟩ := hrel
            have HS1 := Lib.hid hsp
            have HM1 := Lib.hid hmid
            clear hsp hmid
            by_cases hjl : j < b.length
            · obtain ⟨g, hge⟩ := HS1.out.form (by omega)
              have hgr := HG.out g hge
              subst hge
              obtain ⟨⟨x, hx0⟩, hxf, hg1, hg2, hcc⟩ := HS1.out.cell hjl
              obtain ⟨y, hy, hxor⟩ := xor255 x
              go_wp2_with fail
              go_roundw
              case rel => exact ⟨j + 1, by omega, by go_num, HS1.out.stored y hy, HM1.out.ext (M := fun k => k = g) ((Ext.refl _ _).set1 rfl) (fun g' e => by have : g' = g := e; omega) hS⟩
              case measure => simp [intOf] <;> omega
            · obtain rfl : j = b.length := by omega
              clear hjl hj
              have hlen := HM1.out.len
              have hw4 := HM1.out.ww
              have Hw4 := Lib.hid hw4
              clear hw4 HS1 HM1 HG
              go_wp2_with fail
              refine (wr_Out Hw4.out.wr (by omega)).mono ?_
              rintro x w5 ⟨p5, c5, rfl, ho, hX⟩
              obtain ⟨lo2, hlo2⟩ : ∃ n, wr.heap.size = n := ⟨_, rfl⟩
              have Hw5 := Lib.hid (Hw4.out.below hX)
              rw [hlo2] at ho
              have HS5 := Lib.hid (show SpRow w5 lo2 p5 bs.length c5 from ⟨bs, ho⟩)
              have HG5 := Lib.hid (OwnIn.of ho).sp.2
              have HM5 := Lib.hid ((Hw4.out.mid (lo := lo2) (hi := w5.heap.size) (by omega)).below hX)
              have HO5 := Lib.hid ho
              clear ho hX Hw4 hlo2
              go_wp2_with fail
              refine (bytes_Equal HO5.out.rd Hw5.out.want.rd).mono ?_
              rintro x w6 ⟨rfl, rfl⟩
              rw [show (bs == bs) = true from by simp]
              clear Hw5 HO5
              go_wp2_with fail
              go_loopw [99] (fun i ww => ∃ j : Nat, j ≤ bs.length ∧ i = .int .i64 j ∧ SpRow ww lo2 p5 bs.length c5 ∧ Mid w S (.slice (some ⟨bk, off, none⟩) ts.length c) ts (k + 1) (.slice q bs.length d) bs lo2 w5.heap.size ww) (fun i _ => bs.length - (intOf i).toNat)
              case atStart => exact ⟨0, Nat.zero_le _, rfl, HS5.out, HM5.out⟩
              case round =>
                clear HS5 HM5
                obtain ⟨j, hj, rfl, hsp, hmid⟩ := hrel
                have HS1 := Lib.hid hsp
                have HM1 := Lib.hid hmid
                clear hsp hmid
                by_cases hjl : j < bs.length
                · obtain ⟨g, hge⟩ := HS1.out.form (by omega)
                  have hgr := HG5.out g hge
                  subst hge
                  obtain ⟨⟨x, hx0⟩, hxf, hg1, hg2, hcc⟩ := HS1.out.cell hjl
                  obtain ⟨y, hy, hxor⟩ := xor255 x
                  go_wp2_with fail
                  go_roundw
                  case rel => exact ⟨j + 1, by omega, by go_num, HS1.out.stored y hy, HM1.out.ext (M := fun k => k = g) ((Ext.refl _ _).set1 rfl) (fun g' e => by have : g' = g := e; omega) hS⟩
                  case measure => simp [intOf] <;> omega
                · obtain rfl : j = bs.length := by omega
                  clear hjl hj
                  have Hw6 := Lib.hid HM1.out.ww
                  clear HS1 HM1 HG5
                  go_wp2_with fail
                  go_roundw
                  case rel => exact ⟨k + 1, bs, q, d, by omega, by omega, by go_num, rfl, Hw6.out⟩
                  case measure => simp [intOf] <;> omega
    · obtain rfl : k = ts.length := by omega
      go_wp2_with fail
      refine (awake_true).mono ?_
      rintro x w1 ⟨rfl, hX⟩
      have HW1 := Lib.hid (HW.out.below hX)
      clear hX HW
      go_wp2_with fail
      refine (wr_Out HW1.out.wr (by omega)).mono ?_
      rintro x w2 ⟨p2, c2, rfl, ho, hX⟩
      have HW2 := Lib.hid (HW1.out.below hX)
      have HO2 := Lib.hid ho
      clear hX ho HW1
      go_wp2_with fail
      refine (bytes_Equal HO2.out.rd HW2.out.want.rd).mono ?_
      rintro x w3 ⟨rfl, rfl⟩
      rw [show (bs == bs) = true from by simp]
      go_wp2_with fail
      go_ret
      exact ⟨rfl, HW2.out.b⟩
end Go.Proofs.Ytgmlgdfgooacbaa
