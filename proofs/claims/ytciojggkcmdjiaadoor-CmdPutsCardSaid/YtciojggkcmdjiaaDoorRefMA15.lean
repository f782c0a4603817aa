/-
  copybookref15.MayAnswer: its contract. (Printed by wip/gen_refma15.py.)
-/
import Derived.Test.YtciojggkcmdjiaaDoorPutA15
import Derived.Test.YtciojggkcmdjiaaDoorRefC15
namespace Go.Proofs.YtciojggkcmdjiaaDoor
open Go.RowKit
set_option linter.unusedSimpArgs false
set_option linter.unusedVariables false

set_option maxHeartbeats 6400000 in
set_option maxRecDepth 100000 in
theorem ref15_MayAnswer {w : World} {S : Nat → Prop} {a : An} {p q s : Option Addr} {c d e : Nat} (ht : ChsRd w S (.slice p a.text.length c) a.text) (ho : OpsRd w S (.slice q a.ops.length d) a.ops) (hs : StsRd w S (.slice s a.seats.length e) a.seats) (hw : WfA a) :
    Calls Tryd.prog 39 #[.agg #[.int .i64 a.err, .int .u32 a.doc, .int .u64 a.rev, .bool a.whole, .slice p a.text.length c, .slice q a.ops.length d, .slice s a.seats.length e]] w fun x w' => x = .returned (.bool (mayAn a)) ∧ Below w.heap.size w w' := by
  have n1 := hw.text
  have n2 := hw.nops
  have n3 := hw.nseats
  have Hlo := Lib.hid (show ∀ o ∈ a.ops, o.us.length ≤ 1000000 from fun o ho => by have := (hw.ops o ho).few; omega)
  obtain ⟨r, hr⟩ : ∃ x, mayAn a = x := ⟨_, rfl⟩
  rw [hr]
  unfold mayAn mayT at hr
  obtain ⟨err, doc, rev, wh, text, ops, seats⟩ := a
  simp only at ht ho hs n1 n2 n3 hr Hlo ⊢
  have hb := (Below.refl w.heap.size w).alloc (Nat.le_refl _) (.cells #[.int .i64 err, .int .u32 doc, .int .u64 rev, .bool wh, .slice p text.length c, .slice q ops.length d, .slice s seats.length e] 41)
  have HK := Lib.hid (Blk.new w 41 #[.int .i64 err, .int .u32 doc, .int .u64 rev, .bool wh, .slice p text.length c, .slice q ops.length d, .slice s seats.length e])
  have HB := Lib.hid hb
  have HT := Lib.hid (ht.below hb)
  have HO := Lib.hid (ho.below hb)
  have HS := Lib.hid (hs.below hb)
  have dt : decide (4096 < (text.length : Int)) = false := by simp; omega
  have dop : decide (256 < (ops.length : Int)) = false := by simp; omega
  obtain ⟨tb, htb⟩ : ∃ x, text.any (fun c => !mayC c) = x := ⟨_, rfl⟩
  obtain ⟨ob, hob⟩ : ∃ x, ops.any badO = x := ⟨_, rfl⟩
  obtain ⟨sb, hsb⟩ : ∃ x, seats.any badS = x := ⟨_, rfl⟩
  rw [htb, hob, hsb] at hr
  have Htb := Lib.hid (show text.any badC = tb from htb)
  have Hob := Lib.hid hob
  have Hsb := Lib.hid hsb
  clear htb hob hsb hb ht ho hs hw
  obtain ⟨d0, hd0⟩ : ∃ x, decide (err < 0) = x := ⟨_, rfl⟩
  obtain ⟨d1, hd1⟩ : ∃ x, decide (1099511627776 < rev) = x := ⟨_, rfl⟩
  obtain ⟨d2, hd2⟩ : ∃ x, decide ((0 : Int) < (text.length : Int)) = x := ⟨_, rfl⟩
  obtain ⟨d3, hd3⟩ : ∃ x, decide ((16 : Int) < (seats.length : Int)) = x := ⟨_, rfl⟩
  have Hr := Lib.hid (show (!d0 && (!d1 && (((wh || !d2) && !tb) && (!ob && (!d3 && !sb))))) = r by
    rw [← hr, ← hd0, ← hd1, ← hd2, ← hd3]
    have x0 : (!decide (err < 0)) = decide (0 ≤ err) := by rw [← decide_not]; congr 1; simp
    have x1 : (!decide (1099511627776 < rev)) = decide (rev ≤ 1099511627776) := by rw [← decide_not]; congr 1; simp
    have x2 : (!decide ((0 : Int) < (text.length : Int))) = decide (text.length = 0) := by rw [← decide_not]; apply decide_eq_decide.2; omega
    have x3 : (!decide ((16 : Int) < (seats.length : Int))) = decide (seats.length ≤ 16) := by rw [← decide_not]; apply decide_eq_decide.2; omega
    rw [x0, x1, x2, x3])
  clear hr
  cases d0 with
  | true =>
    go_enter Tryd.func39, Tryd.ntmps39
    have hK := HK.out
    have m0 := hK.cell 0
    have m1 := hK.cell 1
    have m2 := hK.cell 2
    have m3 := hK.cell 3
    have m4 := hK.cell 4
    have m5 := hK.cell 5
    have m6 := hK.cell 6
    have hz := hK.lt
    simp only [List.getElem?_toArray, List.getElem?_cons_succ, List.getElem?_cons_zero] at m0 m1 m2 m3 m4 m5 m6
    clear hK
    go_wp2_with fail
    go_ret
    exact ⟨by rw [← Hr.out]; simp, HB.out⟩
  | false =>
    cases d1 with
    | true =>
      go_enter Tryd.func39, Tryd.ntmps39
      have hK := HK.out
      have m0 := hK.cell 0
      have m1 := hK.cell 1
      have m2 := hK.cell 2
      have m3 := hK.cell 3
      have m4 := hK.cell 4
      have m5 := hK.cell 5
      have m6 := hK.cell 6
      have hz := hK.lt
      simp only [List.getElem?_toArray, List.getElem?_cons_succ, List.getElem?_cons_zero] at m0 m1 m2 m3 m4 m5 m6
      clear hK
      go_wp2_with fail
      go_ret
      exact ⟨by rw [← Hr.out]; simp, HB.out⟩
    | false =>
      cases wh with
      | true =>
        clear hd2
        cases d3 with
        | true =>
          go_enter Tryd.func39, Tryd.ntmps39
          have hK := HK.out
          have m0 := hK.cell 0
          have m1 := hK.cell 1
          have m2 := hK.cell 2
          have m3 := hK.cell 3
          have m4 := hK.cell 4
          have m5 := hK.cell 5
          have m6 := hK.cell 6
          have hz := hK.lt
          simp only [List.getElem?_toArray, List.getElem?_cons_succ, List.getElem?_cons_zero] at m0 m1 m2 m3 m4 m5 m6
          clear hK
          go_wp2_with fail
          go_ret
          exact ⟨by rw [← Hr.out]; simp, HB.out⟩
        | false =>
          go_enter Tryd.func39, Tryd.ntmps39
          have hK := HK.out
          have m0 := hK.cell 0
          have m1 := hK.cell 1
          have m2 := hK.cell 2
          have m3 := hK.cell 3
          have m4 := hK.cell 4
          have m5 := hK.cell 5
          have m6 := hK.cell 6
          have hz := hK.lt
          simp only [List.getElem?_toArray, List.getElem?_cons_succ, List.getElem?_cons_zero] at m0 m1 m2 m3 m4 m5 m6
          clear hK
          go_wp2_with fail
          generalize w.alloc (.cells #[.int .i64 err, .int .u32 doc, .int .u64 rev, .bool true, .slice p text.length c, .slice q ops.length d, .slice s seats.length e] 41) = W1 at *
          go_loopw [3] (fun iv wr => ∃ k : Nat, k ≤ text.length ∧ iv = .int .i64 k ∧ wr = W1 ∧ Hid ((text.take k).any badC = false)) (fun iv _ => text.length - (intOf iv).toNat)
          case atStart => exact ⟨0, Nat.zero_le _, rfl, rfl, Lib.hid rfl⟩
          case round =>
            obtain ⟨k, hk, rfl, hwr, hR⟩ := hrel
            have hwr2 := hwr.symm
            subst hwr2
            by_cases hlt : k < text.length
            · obtain ⟨g, off, rfl, hc, e0⟩ := HT.out.at_ hlt
              have hlti : (k : Int) < (text.length : Int) := by omega
              have Htk := Lib.hid (show text.take (k + 1) = text.take k ++ [text[k]] from List.take_succ_eq_append_getElem hlt)
              have Hin := Lib.hid (show text[k] ∈ text from List.getElem_mem hlt)
              generalize text[k]'hlt = u at *
              have hgz := lt_of_cell e0
              go_wp2_with fail
              refine ref04_May.mono ?_
              rintro _ _ ⟨rfl, hww⟩
              subst hww
              obtain ⟨bb, hbd⟩ : ∃ x, mayC u = x := ⟨_, rfl⟩
              rw [hbd]
              have Hbd := Lib.hid hbd
              clear hbd
              cases bb with
              | false =>
                have htr : tb = true := by rw [← Htb.out]; exact List.any_eq_true.2 ⟨u, Hin.out, by unfold badC; rw [Hbd.out]; rfl⟩
                subst htr
                go_wp2_with fail
                go_ret
                exact ⟨by rw [← Hr.out]; simp, HB.out⟩
              | true =>
                have HN2 := Lib.hid (show (text.take (k + 1)).any badC = false from by rw [Htk.out, List.any_append, hR.out, List.any_cons, show badC u = false by unfold badC; rw [Hbd.out]; rfl]; rfl)
                go_wp2_with fail
                go_roundw
                case rel => exact ⟨k + 1, by omega, by go_num, (by first | rfl | trivial), HN2⟩
                case measure => simp [intOf]; omega
            · obtain rfl : k = text.length := by omega
              have hn := hR.out
              rw [List.take_length, Htb.out] at hn
              subst hn
              clear hR
              go_wp2_with fail
              go_loopw [4] (fun iv wr => ∃ k : Nat, k ≤ ops.length ∧ iv = .int .i64 k ∧ Hid (Below W1.heap.size W1 wr ∧ (ops.take k).any badO = false)) (fun iv _ => ops.length - (intOf iv).toNat)
              case atStart => exact ⟨0, Nat.zero_le _, rfl, Lib.hid ⟨Below.refl _ W1, rfl⟩⟩
              case round =>
                obtain ⟨w2, hw2⟩ : ∃ x, x = wr := ⟨_, rfl⟩
                subst hw2
                obtain ⟨k, hk, rfl, hR⟩ := hrel
                clear m0 m1 m2 m3 m4 m5 m6 hz
                have hK := HK.out.below hR.out.1
                have m0 := hK.cell 0
                have m1 := hK.cell 1
                have m2 := hK.cell 2
                have m3 := hK.cell 3
                have m4 := hK.cell 4
                have m5 := hK.cell 5
                have m6 := hK.cell 6
                have hz := hK.lt
                simp only [List.getElem?_toArray, List.getElem?_cons_succ, List.getElem?_cons_zero] at m0 m1 m2 m3 m4 m5 m6
                clear hK
                by_cases hlt : k < ops.length
                · obtain ⟨g, off, qq, dd, rfl, hc, e0, e1, e2, e3, hu⟩ := (HO.out.below hR.out.1).at_ hlt
                  have hlti : (k : Int) < (ops.length : Int) := by omega
                  have Htk := Lib.hid (show ops.take (k + 1) = ops.take k ++ [ops[k]] from List.take_succ_eq_append_getElem hlt)
                  have Hin := Lib.hid (show ops[k] ∈ ops from List.getElem_mem hlt)
                  generalize ops[k]'hlt = u at *
                  have hgz := lt_of_cell e2
                  have hul := Hlo.out u Hin.out
                  have HU := Lib.hid hu
                  clear hu
                  go_wp2_with fail
                  refine (ref15_Row HU.out hul).mono ?_
                  rintro _ w3 ⟨rfl, hb⟩
                  have HB3 := Lib.hid (hR.out.1.trans (hb.mono hR.out.1.size))
                  have Hn := Lib.hid hR.out.2
                  clear hb hR HU e0 e1 e2 e3 hgz hul m0 m1 m2 m3 m4 m5 m6 hz
                  have hK := HK.out.below HB3.out
                  have m0 := hK.cell 0
                  have m1 := hK.cell 1
                  have m2 := hK.cell 2
                  have m3 := hK.cell 3
                  have m4 := hK.cell 4
                  have m5 := hK.cell 5
                  have m6 := hK.cell 6
                  have hz := hK.lt
                  simp only [List.getElem?_toArray, List.getElem?_cons_succ, List.getElem?_cons_zero] at m0 m1 m2 m3 m4 m5 m6
                  clear hK
                  obtain ⟨bb, hbd⟩ : ∃ x, rowB u.us = x := ⟨_, rfl⟩
                  rw [hbd]
                  have Hbd := Lib.hid hbd
                  clear hbd
                  cases bb with
                  | false =>
                    have htr : ob = true := by rw [← Hob.out]; exact List.any_eq_true.2 ⟨u, Hin.out, by unfold badO; rw [Hbd.out]; rfl⟩
                    subst htr
                    have HBf := Lib.hid (HB.out.trans (HB3.out.mono HB.out.size))
                    go_wp2_with fail
                    go_ret
                    exact ⟨by rw [← Hr.out]; simp, HBf.out⟩
                  | true =>
                    have HN2 := Lib.hid (show (ops.take (k + 1)).any badO = false from by rw [Htk.out, List.any_append, Hn.out, List.any_cons, show badO u = false by unfold badO; rw [Hbd.out]; rfl]; rfl)
                    go_wp2_with fail
                    go_roundw
                    case rel => exact ⟨k + 1, by omega, by go_num, Lib.hid ⟨HB3.out, HN2.out⟩⟩
                    case measure => simp [intOf]; omega
                · obtain rfl : k = ops.length := by omega
                  have hn := hR.out.2
                  rw [List.take_length, Hob.out] at hn
                  subst hn
                  have HB2 := Lib.hid (HB.out.trans (hR.out.1.mono HB.out.size))
                  have HS2 := Lib.hid (HS.out.below hR.out.1)
                  clear hR
                  go_wp2_with fail
                  go_loopw [5] (fun iv wr => ∃ k : Nat, k ≤ seats.length ∧ iv = .int .i64 k ∧ wr = w2 ∧ Hid ((seats.take k).any badS = false)) (fun iv _ => seats.length - (intOf iv).toNat)
                  case atStart => exact ⟨0, Nat.zero_le _, rfl, rfl, Lib.hid rfl⟩
                  case round =>
                    obtain ⟨k, hk, rfl, hwr, hR⟩ := hrel
                    have hwr2 := hwr.symm
                    subst hwr2
                    by_cases hlt : k < seats.length
                    · obtain ⟨g, off, rfl, hc, e0, e1, e2⟩ := HS2.out.at_ hlt
                      have hlti : (k : Int) < (seats.length : Int) := by omega
                      have Htk := Lib.hid (show seats.take (k + 1) = seats.take k ++ [seats[k]] from List.take_succ_eq_append_getElem hlt)
                      have Hin := Lib.hid (show seats[k] ∈ seats from List.getElem_mem hlt)
                      generalize seats[k]'hlt = u at *
                      have hgz := lt_of_cell e1
                      have Hbad := Lib.hid (show badS u = true → r = false from fun h => by
                        have : sb = true := by rw [← Hsb.out]; exact List.any_eq_true.2 ⟨u, Hin.out, h⟩
                        subst this
                        rw [← Hr.out]; simp)
                      by_cases p0 : u.pos < 0
                      · have x0 : decide (u.pos < 0) = true := by simpa using p0
                        obtain rfl : r = false := Hbad.out (by unfold badS farB; rw [decide_eq_false (show ¬ 0 ≤ u.pos by omega)]; rfl)
                        clear p0
                        go_wp2_with fail
                        go_ret
                        exact ⟨rfl, HB2.out⟩
                      · have x0 : decide (u.pos < 0) = false := by simpa using p0
                        by_cases p1 : 2147483648 < u.pos
                        · have x1 : decide (2147483648 < u.pos) = true := by simpa using p1
                          obtain rfl : r = false := Hbad.out (by unfold badS farB; rw [decide_eq_false (show ¬ u.pos ≤ 2147483648 by omega)]; simp)
                          clear p0 p1
                          go_wp2_with fail
                          go_ret
                          exact ⟨rfl, HB2.out⟩
                        · have x1 : decide (2147483648 < u.pos) = false := by simpa using p1
                          have hbd : badS u = false := by unfold badS farB; rw [decide_eq_true (show 0 ≤ u.pos by omega), decide_eq_true (show u.pos ≤ 2147483648 by omega)]; rfl
                          have HN2 := Lib.hid (show (seats.take (k + 1)).any badS = false from by rw [Htk.out, List.any_append, hR.out, List.any_cons, hbd]; rfl)
                          clear hbd p0 p1
                          go_wp2_with fail
                          go_roundw
                          case rel => exact ⟨k + 1, by omega, by go_num, (by first | rfl | trivial), HN2⟩
                          case measure => simp [intOf]; omega
                    · obtain rfl : k = seats.length := by omega
                      have hn := hR.out
                      rw [List.take_length, Hsb.out] at hn
                      subst hn
                      clear hR
                      go_wp2_with fail
                      go_ret
                      exact ⟨by rw [← Hr.out]; simp, HB2.out⟩
      | false =>
        cases d2 with
        | true =>
          have hp : 0 < text.length := by have := of_decide_eq_true hd2; omega
          have hp2 : decide (0 < text.length) = true := decide_eq_true hp
          have hp3 : text.length ≠ 0 := by omega
          go_enter Tryd.func39, Tryd.ntmps39
          have hK := HK.out
          have m0 := hK.cell 0
          have m1 := hK.cell 1
          have m2 := hK.cell 2
          have m3 := hK.cell 3
          have m4 := hK.cell 4
          have m5 := hK.cell 5
          have m6 := hK.cell 6
          have hz := hK.lt
          simp only [List.getElem?_toArray, List.getElem?_cons_succ, List.getElem?_cons_zero] at m0 m1 m2 m3 m4 m5 m6
          clear hK
          go_wp2_with fail
          go_ret
          exact ⟨by rw [← Hr.out]; simp, HB.out⟩
        | false =>
          obtain rfl : text = [] := List.eq_nil_of_length_eq_zero (by have := of_decide_eq_false hd2; omega)
          have htb : false = tb := Htb.out
          subst htb
          clear hd2 n1 dt HT
          simp only [List.length_nil] at HK HB ⊢
          cases d3 with
          | true =>
            go_enter Tryd.func39, Tryd.ntmps39
            have hK := HK.out
            have m0 := hK.cell 0
            have m1 := hK.cell 1
            have m2 := hK.cell 2
            have m3 := hK.cell 3
            have m4 := hK.cell 4
            have m5 := hK.cell 5
            have m6 := hK.cell 6
            have hz := hK.lt
            simp only [List.getElem?_toArray, List.getElem?_cons_succ, List.getElem?_cons_zero] at m0 m1 m2 m3 m4 m5 m6
            clear hK
            go_wp2_with fail
            go_ret
            exact ⟨by rw [← Hr.out]; simp, HB.out⟩
          | false =>
            go_enter Tryd.func39, Tryd.ntmps39
            have hK := HK.out
            have m0 := hK.cell 0
            have m1 := hK.cell 1
            have m2 := hK.cell 2
            have m3 := hK.cell 3
            have m4 := hK.cell 4
            have m5 := hK.cell 5
            have m6 := hK.cell 6
            have hz := hK.lt
            simp only [List.getElem?_toArray, List.getElem?_cons_succ, List.getElem?_cons_zero] at m0 m1 m2 m3 m4 m5 m6
            clear hK
            go_wp2_with fail
            generalize w.alloc (.cells #[.int .i64 err, .int .u32 doc, .int .u64 rev, .bool false, .slice p 0 c, .slice q ops.length d, .slice s seats.length e] 41) = W1 at *
            go_loopw [3] (fun iv wr => iv = .int .i64 0 ∧ wr = W1) (fun _ _ => 0)
            case atStart => exact ⟨rfl, rfl⟩
            case round =>
              obtain ⟨rfl, hwr⟩ := hrel
              have hwr2 := hwr.symm
              subst hwr2
              go_wp2_with fail
              go_loopw [4] (fun iv wr => ∃ k : Nat, k ≤ ops.length ∧ iv = .int .i64 k ∧ Hid (Below W1.heap.size W1 wr ∧ (ops.take k).any badO = false)) (fun iv _ => ops.length - (intOf iv).toNat)
              case atStart => exact ⟨0, Nat.zero_le _, rfl, Lib.hid ⟨Below.refl _ W1, rfl⟩⟩
              case round =>
                obtain ⟨w2, hw2⟩ : ∃ x, x = wr := ⟨_, rfl⟩
                subst hw2
                obtain ⟨k, hk, rfl, hR⟩ := hrel
                clear m0 m1 m2 m3 m4 m5 m6 hz
                have hK := HK.out.below hR.out.1
                have m0 := hK.cell 0
                have m1 := hK.cell 1
                have m2 := hK.cell 2
                have m3 := hK.cell 3
                have m4 := hK.cell 4
                have m5 := hK.cell 5
                have m6 := hK.cell 6
                have hz := hK.lt
                simp only [List.getElem?_toArray, List.getElem?_cons_succ, List.getElem?_cons_zero] at m0 m1 m2 m3 m4 m5 m6
                clear hK
                by_cases hlt : k < ops.length
                · obtain ⟨g, off, qq, dd, rfl, hc, e0, e1, e2, e3, hu⟩ := (HO.out.below hR.out.1).at_ hlt
                  have hlti : (k : Int) < (ops.length : Int) := by omega
                  have Htk := Lib.hid (show ops.take (k + 1) = ops.take k ++ [ops[k]] from List.take_succ_eq_append_getElem hlt)
                  have Hin := Lib.hid (show ops[k] ∈ ops from List.getElem_mem hlt)
                  generalize ops[k]'hlt = u at *
                  have hgz := lt_of_cell e2
                  have hul := Hlo.out u Hin.out
                  have HU := Lib.hid hu
                  clear hu
                  go_wp2_with fail
                  refine (ref15_Row HU.out hul).mono ?_
                  rintro _ w3 ⟨rfl, hb⟩
                  have HB3 := Lib.hid (hR.out.1.trans (hb.mono hR.out.1.size))
                  have Hn := Lib.hid hR.out.2
                  clear hb hR HU e0 e1 e2 e3 hgz hul m0 m1 m2 m3 m4 m5 m6 hz
                  have hK := HK.out.below HB3.out
                  have m0 := hK.cell 0
                  have m1 := hK.cell 1
                  have m2 := hK.cell 2
                  have m3 := hK.cell 3
                  have m4 := hK.cell 4
                  have m5 := hK.cell 5
                  have m6 := hK.cell 6
                  have hz := hK.lt
                  simp only [List.getElem?_toArray, List.getElem?_cons_succ, List.getElem?_cons_zero] at m0 m1 m2 m3 m4 m5 m6
                  clear hK
                  obtain ⟨bb, hbd⟩ : ∃ x, rowB u.us = x := ⟨_, rfl⟩
                  rw [hbd]
                  have Hbd := Lib.hid hbd
                  clear hbd
                  cases bb with
                  | false =>
                    have htr : ob = true := by rw [← Hob.out]; exact List.any_eq_true.2 ⟨u, Hin.out, by unfold badO; rw [Hbd.out]; rfl⟩
                    subst htr
                    have HBf := Lib.hid (HB.out.trans (HB3.out.mono HB.out.size))
                    go_wp2_with fail
                    go_ret
                    exact ⟨by rw [← Hr.out]; simp, HBf.out⟩
                  | true =>
                    have HN2 := Lib.hid (show (ops.take (k + 1)).any badO = false from by rw [Htk.out, List.any_append, Hn.out, List.any_cons, show badO u = false by unfold badO; rw [Hbd.out]; rfl]; rfl)
                    go_wp2_with fail
                    go_roundw
                    case rel => exact ⟨k + 1, by omega, by go_num, Lib.hid ⟨HB3.out, HN2.out⟩⟩
                    case measure => simp [intOf]; omega
                · obtain rfl : k = ops.length := by omega
                  have hn := hR.out.2
                  rw [List.take_length, Hob.out] at hn
                  subst hn
                  have HB2 := Lib.hid (HB.out.trans (hR.out.1.mono HB.out.size))
                  have HS2 := Lib.hid (HS.out.below hR.out.1)
                  clear hR
                  go_wp2_with fail
                  go_loopw [5] (fun iv wr => ∃ k : Nat, k ≤ seats.length ∧ iv = .int .i64 k ∧ wr = w2 ∧ Hid ((seats.take k).any badS = false)) (fun iv _ => seats.length - (intOf iv).toNat)
                  case atStart => exact ⟨0, Nat.zero_le _, rfl, rfl, Lib.hid rfl⟩
                  case round =>
                    obtain ⟨k, hk, rfl, hwr, hR⟩ := hrel
                    have hwr2 := hwr.symm
                    subst hwr2
                    by_cases hlt : k < seats.length
                    · obtain ⟨g, off, rfl, hc, e0, e1, e2⟩ := HS2.out.at_ hlt
                      have hlti : (k : Int) < (seats.length : Int) := by omega
                      have Htk := Lib.hid (show seats.take (k + 1) = seats.take k ++ [seats[k]] from List.take_succ_eq_append_getElem hlt)
                      have Hin := Lib.hid (show seats[k] ∈ seats from List.getElem_mem hlt)
                      generalize seats[k]'hlt = u at *
                      have hgz := lt_of_cell e1
                      have Hbad := Lib.hid (show badS u = true → r = false from fun h => by
                        have : sb = true := by rw [← Hsb.out]; exact List.any_eq_true.2 ⟨u, Hin.out, h⟩
                        subst this
                        rw [← Hr.out]; simp)
                      by_cases p0 : u.pos < 0
                      · have x0 : decide (u.pos < 0) = true := by simpa using p0
                        obtain rfl : r = false := Hbad.out (by unfold badS farB; rw [decide_eq_false (show ¬ 0 ≤ u.pos by omega)]; rfl)
                        clear p0
                        go_wp2_with fail
                        go_ret
                        exact ⟨rfl, HB2.out⟩
                      · have x0 : decide (u.pos < 0) = false := by simpa using p0
                        by_cases p1 : 2147483648 < u.pos
                        · have x1 : decide (2147483648 < u.pos) = true := by simpa using p1
                          obtain rfl : r = false := Hbad.out (by unfold badS farB; rw [decide_eq_false (show ¬ u.pos ≤ 2147483648 by omega)]; simp)
                          clear p0 p1
                          go_wp2_with fail
                          go_ret
                          exact ⟨rfl, HB2.out⟩
                        · have x1 : decide (2147483648 < u.pos) = false := by simpa using p1
                          have hbd : badS u = false := by unfold badS farB; rw [decide_eq_true (show 0 ≤ u.pos by omega), decide_eq_true (show u.pos ≤ 2147483648 by omega)]; rfl
                          have HN2 := Lib.hid (show (seats.take (k + 1)).any badS = false from by rw [Htk.out, List.any_append, hR.out, List.any_cons, hbd]; rfl)
                          clear hbd p0 p1
                          go_wp2_with fail
                          go_roundw
                          case rel => exact ⟨k + 1, by omega, by go_num, (by first | rfl | trivial), HN2⟩
                          case measure => simp [intOf]; omega
                    · obtain rfl : k = seats.length := by omega
                      have hn := hR.out
                      rw [List.take_length, Hsb.out] at hn
                      subst hn
                      clear hR
                      go_wp2_with fail
                      go_ret
                      exact ⟨by rw [← Hr.out]; simp, HB2.out⟩
end Go.Proofs.YtciojggkcmdjiaaDoor
