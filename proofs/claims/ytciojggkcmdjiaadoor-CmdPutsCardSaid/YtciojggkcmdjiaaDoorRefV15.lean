/-
  The reference's rows of units: copybookref06.May, copybookref15.Row, copybookref07.Write; copybookref15.WriteOp: their contracts. No condition but lengths far below what memory bears. (Printed by wip/gen_refv15.py.)
-/
import Derived.Test.YtciojggkcmdjiaaDoorRefW15
import Derived.Test.YtciojggkcmdjiaaDoorRefD15
namespace Go.Proofs.YtciojggkcmdjiaaDoor
open Go.RowKit
set_option linter.unusedSimpArgs false
set_option linter.unusedVariables false

theorem ref06_May {w : World} {u : Ut} : Calls Tryd.prog 76 #[utVal u] w fun x w' => x = .returned (.bool (mayU u)) ∧ Below w.heap.size w w' := by
  obtain ⟨r, hr⟩ : ∃ x, mayU u = x := ⟨_, rfl⟩
  rw [hr]
  have Hr := Lib.hid hr
  clear hr
  obtain ⟨kind, pos, chr, cl, rq⟩ := u
  unfold utVal
  have HB := Lib.hid ((Below.refl w.heap.size w).alloc (Nat.le_refl _) (.cells #[.int .i64 kind, .int .i64 pos, .int .i32 chr, .int .u32 cl, .int .u64 rq] 78))
  by_cases k0 : kind = 0
  · subst k0
    by_cases p0 : pos = 0
    · subst p0
      obtain rfl : r = decide (chr = 0) := by rw [← Hr.out]; rfl
      go_enter Tryd.func76, Tryd.ntmps76
      go_wp2_with fail
      go_ret
      exact ⟨rfl, HB.out⟩
    · have d0 : (pos == (0 : Int)) = false := by simpa using p0
      obtain rfl : r = false := by rw [← Hr.out]; unfold mayU; simp [p0]
      go_enter Tryd.func76, Tryd.ntmps76
      go_wp2_with fail
      go_ret
      exact ⟨rfl, HB.out⟩
  · have d0 : (kind == (0 : Int)) = false := by simpa using k0
    by_cases k1 : kind = 1 ∨ kind = 2
    · have hm : r = (decide (0 ≤ pos) && mayC chr) := by rw [← Hr.out]; unfold mayU; rw [if_neg k0, if_pos k1]
      have Hm := Lib.hid hm
      clear hm k0
      by_cases p0 : 0 ≤ pos
      · have dp : decide (0 ≤ pos) = true := by simpa using p0
        obtain rfl : r = mayC chr := by rw [Hm.out, dp]; rfl
        rcases k1 with rfl | rfl
        · go_enter Tryd.func76, Tryd.ntmps76
          go_wp2_with fail
          refine ref04_May.mono ?_
          rintro _ _ ⟨rfl, rfl⟩
          go_wp2_with fail
          go_ret
          exact ⟨rfl, HB.out⟩
        · go_enter Tryd.func76, Tryd.ntmps76
          go_wp2_with fail
          refine ref04_May.mono ?_
          rintro _ _ ⟨rfl, rfl⟩
          go_wp2_with fail
          go_ret
          exact ⟨rfl, HB.out⟩
      · have dp : decide (0 ≤ pos) = false := by simpa using p0
        obtain rfl : r = false := by rw [Hm.out, dp]; rfl
        rcases k1 with rfl | rfl
        · go_enter Tryd.func76, Tryd.ntmps76
          go_wp2_with fail
          go_ret
          exact ⟨rfl, HB.out⟩
        · go_enter Tryd.func76, Tryd.ntmps76
          go_wp2_with fail
          go_ret
          exact ⟨rfl, HB.out⟩
    · have d1 : (kind == (1 : Int)) = false := by rw [beq_eq_false_iff_ne]; omega
      have d2 : (kind == (2 : Int)) = false := by rw [beq_eq_false_iff_ne]; omega
      obtain rfl : r = false := by rw [← Hr.out]; unfold mayU; rw [if_neg k0, if_neg k1]
      clear k0 k1
      go_enter Tryd.func76, Tryd.ntmps76
      go_wp2_with fail
      go_ret
      exact ⟨rfl, HB.out⟩
set_option maxHeartbeats 1600000 in
theorem ref15_Row {w : World} {S : Nat → Prop} {v : Value} {us : List Ut} (h : UtsRd w S v us) (hl : us.length ≤ 1000000) :
    Calls Tryd.prog 43 #[v] w fun x w' => x = .returned (.bool (rowB us)) ∧ Below w.heap.size w w' := by
  obtain ⟨p, c, rfl⟩ := h.slice
  have H := Lib.hid h
  clear h
  obtain ⟨r, hr⟩ : ∃ x, rowB us = x := ⟨_, rfl⟩
  rw [hr]
  have Hr := Lib.hid hr
  clear hr
  go_enter Tryd.func43, Tryd.ntmps43
  go_wp2_with fail
  go_loopw [3] (fun iv wr => ∃ k : Nat, k ≤ us.length ∧ iv = .int .i64 k ∧ Hid (Below w.heap.size w wr ∧ (us.take k).any badU = false)) (fun iv _ => us.length - (intOf iv).toNat)
  case atStart => exact ⟨0, Nat.zero_le _, rfl, Lib.hid ⟨Below.refl _ w, rfl⟩⟩
  case round =>
    obtain ⟨k, hk, rfl, hR⟩ := hrel
    by_cases hlt : k < us.length
    · obtain ⟨g, off, rfl, hc, e0, e1, e2, e3, e4⟩ := (H.out.below hR.out.1).at_ hlt
      have hlti : (k : Int) < (us.length : Int) := by omega
      have Htk := Lib.hid (show us.take (k + 1) = us.take k ++ [us[k]] from List.take_succ_eq_append_getElem hlt)
      have Hin := Lib.hid (show us[k] ∈ us from List.getElem_mem hlt)
      generalize us[k]'hlt = u at *
      have hu : Value.agg #[.int .i64 u.kind, .int .i64 u.pos, .int .i32 u.chr, .int .u32 u.cl, .int .u64 u.rq] = utVal u := rfl
      have Hu := Lib.hid hu
      have hgz := lt_of_cell e1
      clear hu
      go_wp2_with fail
      rw [Hu.out]
      refine ref06_May.mono ?_
      rintro _ w2 ⟨rfl, hb⟩
      have f1 := (hb.cell (p := ⟨g, off + k * 5 + 1, none⟩) hgz).trans e1
      have HB2 := Lib.hid (hR.out.1.trans (hb.mono hR.out.1.size))
      have Hn := Lib.hid hR.out.2
      clear hb hR e0 e1 e2 e3 e4 hgz
      obtain ⟨m, hm⟩ : ∃ x, mayU u = x := ⟨_, rfl⟩
      rw [hm]
      have Hm := Lib.hid hm
      clear hm
      have Hbad := Lib.hid (show badU u = true → r = false from fun h => by
        rw [← Hr.out]; unfold rowB
        rw [show us.any badU = true from List.any_eq_true.2 ⟨u, Hin.out, h⟩]; simp)
      cases m with
      | false =>
        obtain rfl : r = false := Hbad.out (by unfold badU; rw [Hm.out]; rfl)
        go_wp2_with fail
        go_ret
        exact ⟨rfl, HB2.out⟩
      | true =>
        by_cases p0 : u.pos < 0
        · have d0 : decide (u.pos < 0) = true := by simpa using p0
          obtain rfl : r = false := Hbad.out (by unfold badU farB; rw [decide_eq_false (show ¬ 0 ≤ u.pos by omega)]; simp)
          clear p0
          go_wp2_with fail
          go_ret
          exact ⟨rfl, HB2.out⟩
        · have d0 : decide (u.pos < 0) = false := by simpa using p0
          by_cases p1 : 2147483648 < u.pos
          · have d1 : decide (2147483648 < u.pos) = true := by simpa using p1
            obtain rfl : r = false := Hbad.out (by unfold badU farB; rw [decide_eq_false (show ¬ u.pos ≤ 2147483648 by omega)]; simp)
            clear p0 p1
            go_wp2_with fail
            go_ret
            exact ⟨rfl, HB2.out⟩
          · have d1 : decide (2147483648 < u.pos) = false := by simpa using p1
            have hbd : badU u = false := by unfold badU farB; rw [Hm.out, decide_eq_true (show 0 ≤ u.pos by omega), decide_eq_true (show u.pos ≤ 2147483648 by omega)]; rfl
            have HN2 := Lib.hid (show (us.take (k + 1)).any badU = false from by rw [Htk.out, List.any_append, Hn.out, List.any_cons, hbd]; rfl)
            clear hbd p0 p1
            go_wp2_with fail
            go_roundw
            case rel => exact ⟨k + 1, by omega, by go_num, Lib.hid ⟨HB2.out, HN2.out⟩⟩
            case measure => simp [intOf]; omega
    · obtain rfl : k = us.length := by omega
      have hn := hR.out.2
      rw [List.take_length] at hn
      have HB := Lib.hid hR.out.1
      have Hr2 := Lib.hid (show r = decide ((us.length : Int) ≤ 256) by rw [← Hr.out]; unfold rowB; rw [hn]; simp; omega)
      clear hn hR
      go_wp2_with fail
      go_ret
      exact ⟨by rw [Hr2.out]; rfl, HB.out⟩

/-! Bytes that the reference puts. -/
structure OutB (w0 w : World) (v : Value) (l : List UInt8) (K : Nat) : Prop where
  own : CmdOwn w w0.heap.size v l
  below : Below w0.heap.size w0 w
  len : l.length ≤ K
theorem OutB.start (w : World) : OutB w w (.slice none 0 0) [] 0 := ⟨World.ownsRow_nil _ _ _ _, Below.refl _ w, by simp⟩
theorem OutB.more {w0 w : World} {v : Value} {l : List UInt8} {K K' : Nat} (h : OutB w0 w v l K) (hK : K ≤ K') : OutB w0 w v l K' := ⟨h.own, h.below, Nat.le_trans h.len hK⟩
theorem OutB.next {w0 w w' : World} {v : Value} {l : List UInt8} {K : Nat} (h : OutB w0 w v l K) (hb : Below w.heap.size w w') : OutB w0 w' v l K := ⟨h.own.below hb, h.below.trans (hb.mono h.below.size), h.len⟩
theorem OutB.put {w0 w : World} {v : Value} {l : List UInt8} {K n : Nat} (h : OutB w0 w v l K) (hn : n < 18446744073709551616) (hK : K ≤ 100000000) :
    Calls Tryd.prog 33 #[v, .int .u64 n] w fun e w' => ∃ v', e = .returned v' ∧ OutB w0 w' v' (l ++ Lib.uvarint n) (K + 10) ∧ Below w.heap.size w w' := by
  refine (ref_Put (CmdOwn.rd h.own) (NilOk.own h.own) hn (by have := h.len; omega)).mono ?_
  rintro e w' ⟨v', rfl, ho, hb⟩
  refine ⟨v', rfl, ⟨CmdOwn.base ho h.below.size, h.below.trans (hb.mono h.below.size), ?_⟩, hb⟩
  have h1 := h.len
  have h2 := Lib.uvarint_length64 hn
  rw [List.length_append]
  omega
theorem ref_number {w : World} {n : Nat} (hn : n ≤ 2147483648) : Calls Tryd.prog 64 #[.int .i64 n] w fun x w' => x = .returned (.int .u64 n) ∧ w = w' := by
  have d0 : decide ((n : Int) < 0) = false := by simp
  have q : IntKind.u64.wrap (n : Int) = n := IntWalk.u64_in _ (by omega)
  go_enter Tryd.func64, Tryd.ntmps64
  go_wp2_with fail
  go_ret
  exact ⟨rfl, rfl⟩
theorem ref_Bool {w : World} {b : Bool} : Calls Tryd.prog 40 #[.bool b] w fun x w' => x = .returned (.int .u64 (b.toNat : Nat)) ∧ w = w' := by
  cases b with
  | false =>
    go_enter Tryd.func40, Tryd.ntmps40
    go_wp2_with fail
    go_ret
    exact ⟨rfl, rfl⟩
  | true =>
    go_enter Tryd.func40, Tryd.ntmps40
    go_wp2_with fail
    go_ret
    exact ⟨rfl, rfl⟩
theorem ref_unitBytes {u : Ut} {n0 n1 n2 n3 n4 : Nat} (h : unitNums u = [n0, n1, n2, n3, n4]) (l : List UInt8) : l ++ Lib.uvarint n0 ++ Lib.uvarint n1 ++ Lib.uvarint n2 ++ Lib.uvarint n3 ++ Lib.uvarint n4 = l ++ unitBytes u := by
  unfold unitBytes numsBytes
  rw [h]
  simp [List.append_assoc]
set_option maxHeartbeats 6400000 in
set_option maxRecDepth 100000 in
theorem OutB.write {w0 w : World} {S : Nat → Prop} {v u : Value} {l : List UInt8} {us : List Ut} {K : Nat} (ho : OutB w0 w v l K) (h : UtsRd w S u us) (hok : ∀ u ∈ us, OkU u) (hl : us.length ≤ 1000000) (hK : K ≤ 10000000) :
    Calls Tryd.prog 35 #[v, u] w fun e w' => ∃ v', e = .returned v' ∧ OutB w0 w' v' (l ++ rowBytes us) (K + 10 + 50 * us.length) ∧ Below w.heap.size w w' := by
  obtain ⟨p, c, rfl⟩ := h.slice
  have H := Lib.hid h
  have HO := Lib.hid ho
  have Hok := Lib.hid hok
  clear h ho hok
  have q1 : IntKind.u64.wrap (us.length : Int) = us.length := IntWalk.u64_in _ (by omega)
  go_enter Tryd.func35, Tryd.ntmps35
  go_wp2_with fail
  refine (HO.out.put (n := us.length) (by omega) (by omega)).mono ?_
  rintro _ w1 ⟨v1, rfl, ho1, hb1⟩
  have HO1 := Lib.hid ho1
  have HB1 := Lib.hid hb1
  clear ho1 hb1 HO q1
  go_wp2_with fail
  go_loopw [0, 5] (fun bv iv wr => ∃ k : Nat, k ≤ us.length ∧ iv = .int .i64 k ∧ Hid (OutB w0 wr bv (l ++ Lib.uvarint us.length ++ (us.take k).flatMap unitBytes) (K + 10 + 50 * k) ∧ Below w.heap.size w wr)) (fun _ iv _ => us.length - (intOf iv).toNat)
  case atStart => exact ⟨0, Nat.zero_le _, rfl, Lib.hid ⟨by simpa using HO1.out, HB1.out⟩⟩
  case round =>
    rename_i bv _
    obtain ⟨k, hk, rfl, hR⟩ := hrel
    by_cases hlt : k < us.length
    · obtain ⟨g, off, rfl, hc, e0, e1, e2, e3, e4⟩ := (H.out.below hR.out.2).at_ hlt
      have hlti : (k : Int) < (us.length : Int) := by omega
      have Htk := Lib.hid (show us.take (k + 1) = us.take k ++ [us[k]] from List.take_succ_eq_append_getElem hlt)
      have Hou := Lib.hid (Hok.out us[k] (List.getElem_mem hlt))
      generalize us[k]'hlt = u at *
      obtain ⟨n0, hn0⟩ := Int.eq_ofNat_of_zero_le Hou.out.kind.1
      obtain ⟨n1, hn1⟩ := Int.eq_ofNat_of_zero_le Hou.out.pos.1
      obtain ⟨n2, hn2⟩ := Int.eq_ofNat_of_zero_le Hou.out.chr.1
      obtain ⟨n3, hn3⟩ := Int.eq_ofNat_of_zero_le Hou.out.cl.1
      obtain ⟨n4, hn4⟩ := Int.eq_ofNat_of_zero_le Hou.out.rq.1
      rw [hn0] at e0
      rw [hn1] at e1
      rw [hn2] at e2
      rw [hn3] at e3
      rw [hn4] at e4
      have b0 : n0 ≤ 2 := by have := Hou.out.kind; omega
      have b1 : n1 ≤ 2147483648 := by have := Hou.out.pos; omega
      have b2 : n2 ≤ 1114111 := by have := Hou.out.chr; omega
      have b3 : n3 ≤ 4294967295 := by have := Hou.out.cl; omega
      have b4 : n4 ≤ 18446744073709551615 := by have := Hou.out.rq; omega
      have Hnums := Lib.hid (show unitNums u = [n0, n1, n2, n3, n4] from by unfold unitNums; rw [hn0, hn1, hn2, hn3, hn4]; rfl)
      have c3 : IntKind.u64.wrap (n3 : Int) = n3 := IntWalk.u64_in _ (by omega)
      have HE := Lib.hid (show (wr.cell? ⟨g, off + k * 5, none⟩ = some (.int .i64 n0) ∧ wr.cell? ⟨g, off + k * 5 + 1, none⟩ = some (.int .i64 n1) ∧ wr.cell? ⟨g, off + k * 5 + 2, none⟩ = some (.int .i32 n2) ∧ wr.cell? ⟨g, off + k * 5 + 3, none⟩ = some (.int .u32 n3) ∧ wr.cell? ⟨g, off + k * 5 + 4, none⟩ = some (.int .u64 n4)) ∧ g < wr.heap.size from ⟨⟨e0, e1, e2, e3, e4⟩, lt_of_cell e0⟩)
      have HX0 := Lib.hid hR.out.1
      have HB0 := Lib.hid hR.out.2
      have HR0 := Lib.hid (Below.refl wr.heap.size wr)
      have bk : k ≤ 1000000 := by omega
      clear hn0 hn1 hn2 hn3 hn4 hR HO1 HB1 e1 e2 e3 e4
      go_wp2_with fail
      refine (ref_number (n := n0) (by omega)).mono ?_
      rintro _ _ ⟨rfl, rfl⟩
      go_wp2_with fail
      refine (HX0.out.put (n := n0) (by omega) (by omega)).mono ?_
      rintro _ w2 ⟨v2, rfl, ho, hb⟩
      have HX1 := Lib.hid ho
      have HR1 := Lib.hid (HR0.out.trans (hb.mono HR0.out.size))
      clear ho hb e0 HX0 HR0
      have e1 := (HR1.out.cell (p := ⟨g, off + k * 5 + 1, none⟩) HE.out.2).trans HE.out.1.2.1
      go_wp2_with fail
      refine (ref_number (n := n1) (by omega)).mono ?_
      rintro _ _ ⟨rfl, rfl⟩
      go_wp2_with fail
      refine (HX1.out.put (n := n1) (by omega) (by omega)).mono ?_
      rintro _ w3 ⟨v3, rfl, ho, hb⟩
      have HX2 := Lib.hid ho
      have HR2 := Lib.hid (HR1.out.trans (hb.mono HR1.out.size))
      clear ho hb e1 HX1 HR1
      have e2 := (HR2.out.cell (p := ⟨g, off + k * 5 + 2, none⟩) HE.out.2).trans HE.out.1.2.2.1
      go_wp2_with fail
      refine (ref_number (n := n2) (by omega)).mono ?_
      rintro _ _ ⟨rfl, rfl⟩
      go_wp2_with fail
      refine (HX2.out.put (n := n2) (by omega) (by omega)).mono ?_
      rintro _ w4 ⟨v4, rfl, ho, hb⟩
      have HX3 := Lib.hid ho
      have HR3 := Lib.hid (HR2.out.trans (hb.mono HR2.out.size))
      clear ho hb e2 HX2 HR2
      have e3 := (HR3.out.cell (p := ⟨g, off + k * 5 + 3, none⟩) HE.out.2).trans HE.out.1.2.2.2.1
      go_wp2_with fail
      refine (HX3.out.put (n := n3) (by omega) (by omega)).mono ?_
      rintro _ w5 ⟨v5, rfl, ho, hb⟩
      have HX4 := Lib.hid ho
      have HR4 := Lib.hid (HR3.out.trans (hb.mono HR3.out.size))
      clear ho hb e3 HX3 HR3
      have e4 := (HR4.out.cell (p := ⟨g, off + k * 5 + 4, none⟩) HE.out.2).trans HE.out.1.2.2.2.2
      go_wp2_with fail
      refine (HX4.out.put (n := n4) (by omega) (by omega)).mono ?_
      rintro _ w6 ⟨v6, rfl, ho, hb⟩
      have HX5 := Lib.hid ho
      have HR5 := Lib.hid (HR4.out.trans (hb.mono HR4.out.size))
      clear ho hb e4 HX4 HR4
      have hfin := HX5.out
      rw [ref_unitBytes Hnums.out, List.append_assoc _ _ (unitBytes u)] at hfin
      have Hfin := Lib.hid (show OutB w0 w6 v6 (l ++ Lib.uvarint us.length ++ (us.take (k + 1)).flatMap unitBytes) (K + 10 + 50 * (k + 1)) from by rw [Htk.out, List.flatMap_append]; simpa using hfin.more (show _ ≤ K + 10 + 50 * (k + 1) by omega))
      have HBf := Lib.hid (HB0.out.trans (HR5.out.mono HB0.out.size))
      clear hfin HX5 HR5 HB0
      go_wp2_with fail
      go_roundw
      case rel => exact ⟨k + 1, by omega, by go_num, Lib.hid ⟨Hfin.out, HBf.out⟩⟩
      case measure => simp [intOf]; omega
    · obtain rfl : k = us.length := by omega
      have hx := hR.out.1
      rw [List.take_length, List.append_assoc] at hx
      have HX := Lib.hid hx
      have HB := Lib.hid hR.out.2
      clear hx hR
      go_wp2_with fail
      go_ret
      exact ⟨_, rfl, HX.out, HB.out⟩
end Go.Proofs.YtciojggkcmdjiaaDoor
