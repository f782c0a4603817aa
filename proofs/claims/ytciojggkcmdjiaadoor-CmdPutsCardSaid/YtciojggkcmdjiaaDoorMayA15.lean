/-
  cmd.mayAnswer: its contract. (Printed by wip/gen_maya15.py.)
-/
import Derived.Test.YtciojggkcmdjiaaDoorAnM15
import Derived.Test.YtciojggkcmdjiaaDoorAns15
namespace Go.Proofs.YtciojggkcmdjiaaDoor
open Go.RowKit
set_option linter.unusedSimpArgs false
set_option linter.unusedVariables false

theorem may_ch {w : World} {S : Nat → Prop} {c : Int} : Calls Tryd.prog 66 #[.int .i32 c] w fun x w' => x = .returned (.bool (!mayC c)) ∧ Below w.heap.size w w' := by
  go_enter Tryd.func66, Tryd.ntmps66
  go_wp2_with fail
  refine utf_May.mono ?_
  rintro _ _ ⟨rfl, rfl⟩
  go_wp2_with fail
  go_ret
  exact ⟨rfl, Below.refl _ _⟩
theorem may_op {w : World} {S : Nat → Prop} {cl rq : Int} {p : Option Addr} {k : Nat} {us : List Ut} {un : Bool} (h : UtsRd w S (.slice p us.length k) us) (hl : us.length ≤ 1000000) : Calls Tryd.prog 69 #[.agg #[.int .u32 cl, .int .u64 rq, .slice p us.length k, .bool un]] w fun x w' => x = .returned (.bool (!rowB us)) ∧ Below w.heap.size w w' := by
  have hba := (Below.refl w.heap.size w).alloc (Nat.le_refl _) (.cells #[.int .u32 cl, .int .u64 rq, .slice p us.length k, .bool un] 46)
  have H := Lib.hid (h.below hba)
  have HB := Lib.hid hba
  clear h hba
  go_enter Tryd.func69, Tryd.ntmps69
  go_wp2_with fail
  refine (cmd_row H.out hl).mono ?_
  rintro _ w2 ⟨rfl, hb⟩
  have HB2 := Lib.hid (HB.out.trans (hb.mono HB.out.size))
  clear hb
  go_wp2_with fail
  go_ret
  exact ⟨rfl, HB2.out⟩
theorem may_st {w : World} {cl pos til : Int} : Calls Tryd.prog 71 #[.agg #[.int .u32 cl, .int .i64 pos, .int .u64 til]] w fun x w' => x = .returned (.bool (!farB pos)) ∧ Below w.heap.size w w' := by
  have HB := Lib.hid ((Below.refl w.heap.size w).alloc (Nat.le_refl _) (.cells #[.int .u32 cl, .int .i64 pos, .int .u64 til] 86))
  go_enter Tryd.func71, Tryd.ntmps71
  go_wp2_with fail
  refine cmd_far.mono ?_
  rintro _ _ ⟨rfl, rfl⟩
  go_wp2_with fail
  go_ret
  exact ⟨rfl, HB.out⟩
def badC (c : Int) : Bool := !mayC c
set_option maxHeartbeats 1600000 in
theorem index_chs {w : World} {S : Nat → Prop} {v : Value} {us : List Int} (h : ChsRd w S v us) (hl : us.length ≤ 1000000) :
    Calls Tryd.prog 84 #[v, .func (.func 66) #[] #[]] w fun x w' => (∃ i : Int, x = .returned (.int .i64 i) ∧ decide (0 ≤ i) = us.any badC) ∧ Below w.heap.size w w' := by
  obtain ⟨p, c, rfl⟩ := h.slice
  have H := Lib.hid h
  clear h
  go_enter Tryd.func84, Tryd.ntmps84
  go_wp2_with fail
  go_loopw [8] (fun iv wr => ∃ k : Nat, k ≤ us.length ∧ iv = .int .i64 k ∧ Hid (Below w.heap.size w wr ∧ (us.take k).any badC = false)) (fun iv _ => us.length - (intOf iv).toNat)
  case atStart => exact ⟨0, Nat.zero_le _, rfl, Lib.hid ⟨Below.refl _ w, rfl⟩⟩
  case round =>
    obtain ⟨k, hk, rfl, hR⟩ := hrel
    by_cases hlt : k < us.length
    · obtain ⟨g, off, rfl, hc, e0⟩ := (H.out.below hR.out.1).at_ hlt
      have Htk := Lib.hid (show us.take (k + 1) = us.take k ++ [us[k]] from List.take_succ_eq_append_getElem hlt)
      have Hin := Lib.hid (show us[k] ∈ us from List.getElem_mem hlt)
      generalize us[k]'hlt = u at *
      go_wp2_with fail
      refine (may_ch (S := S)).mono ?_
      rintro _ w2 ⟨rfl, hb⟩
      have HB2 := Lib.hid (hR.out.1.trans (hb.mono hR.out.1.size))
      have Hn := Lib.hid hR.out.2
      obtain ⟨bb, hbd⟩ : ∃ x, badC u = x := ⟨_, rfl⟩
      have Hbd := Lib.hid hbd
      clear hb hR e0
      cases bb with
      | true =>
        have HA := Lib.hid (show us.any badC = true from List.any_eq_true.2 ⟨u, Hin.out, Hbd.out⟩)
        rw [show (!mayC u) = true from Hbd.out]
        go_wp2_with fail
        go_ret
        exact ⟨⟨k, rfl, by rw [HA.out]; simp⟩, HB2.out⟩
      | false =>
        have HN2 := Lib.hid (show (us.take (k + 1)).any badC = false from by rw [Htk.out, List.any_append, Hn.out, List.any_cons, Hbd.out]; rfl)
        rw [show (!mayC u) = false from Hbd.out]
        go_wp2_with fail
        go_roundw
        case rel => exact ⟨k + 1, by omega, by go_num, Lib.hid ⟨HB2.out, HN2.out⟩⟩
        case measure => simp [intOf]; omega
    · obtain rfl : k = us.length := by omega
      have hn := hR.out.2
      rw [List.take_length] at hn
      have Hn := Lib.hid hn
      have HB := Lib.hid hR.out.1
      clear hn hR
      go_wp2_with fail
      go_ret
      exact ⟨⟨-1, rfl, by rw [Hn.out]; rfl⟩, HB.out⟩
theorem contains_chs {w : World} {S : Nat → Prop} {v : Value} {us : List Int} (h : ChsRd w S v us) (hl : us.length ≤ 1000000) :
    Calls Tryd.prog 65 #[v, .func (.func 66) #[] #[]] w fun x w' => x = .returned (.bool (us.any badC)) ∧ Below w.heap.size w w' := by
  have H := Lib.hid h
  clear h
  go_enter Tryd.func65, Tryd.ntmps65
  go_wp2_with fail
  refine (index_chs H.out hl).mono ?_
  rintro _ w2 ⟨⟨i, rfl, hi⟩, hb⟩
  have HB := Lib.hid hb
  have Hi := Lib.hid hi
  clear hb hi
  go_wp2_with fail
  go_ret
  exact ⟨by rw [← Hi.out]; rfl, HB.out⟩
set_option maxHeartbeats 1600000 in
theorem index_ops {w : World} {S : Nat → Prop} {v : Value} {us : List Opr} (h : OpsRd w S v us) (hl : us.length ≤ 1000000) (hlo : ∀ o ∈ us, o.us.length ≤ 1000000) :
    Calls Tryd.prog 85 #[v, .func (.func 69) #[] #[]] w fun x w' => (∃ i : Int, x = .returned (.int .i64 i) ∧ decide (0 ≤ i) = us.any badO) ∧ Below w.heap.size w w' := by
  obtain ⟨p, c, rfl⟩ := h.slice
  have H := Lib.hid h
  clear h
  go_enter Tryd.func85, Tryd.ntmps85
  go_wp2_with fail
  go_loopw [8] (fun iv wr => ∃ k : Nat, k ≤ us.length ∧ iv = .int .i64 k ∧ Hid (Below w.heap.size w wr ∧ (us.take k).any badO = false)) (fun iv _ => us.length - (intOf iv).toNat)
  case atStart => exact ⟨0, Nat.zero_le _, rfl, Lib.hid ⟨Below.refl _ w, rfl⟩⟩
  case round =>
    obtain ⟨k, hk, rfl, hR⟩ := hrel
    by_cases hlt : k < us.length
    · obtain ⟨g, off, q, d, rfl, hc, e0, e1, e2, e3, hu⟩ := (H.out.below hR.out.1).at_ hlt
      have Htk := Lib.hid (show us.take (k + 1) = us.take k ++ [us[k]] from List.take_succ_eq_append_getElem hlt)
      have Hin := Lib.hid (show us[k] ∈ us from List.getElem_mem hlt)
      generalize us[k]'hlt = u at *
      have hul := hlo u Hin.out
      have HU := Lib.hid hu
      clear hu
      go_wp2_with fail
      refine (may_op HU.out hul).mono ?_
      rintro _ w2 ⟨rfl, hb⟩
      have HB2 := Lib.hid (hR.out.1.trans (hb.mono hR.out.1.size))
      have Hn := Lib.hid hR.out.2
      obtain ⟨bb, hbd⟩ : ∃ x, badO u = x := ⟨_, rfl⟩
      have Hbd := Lib.hid hbd
      clear hb hR e0 e1 e2 e3
      cases bb with
      | true =>
        have HA := Lib.hid (show us.any badO = true from List.any_eq_true.2 ⟨u, Hin.out, Hbd.out⟩)
        rw [show (!rowB u.us) = true from Hbd.out]
        go_wp2_with fail
        go_ret
        exact ⟨⟨k, rfl, by rw [HA.out]; simp⟩, HB2.out⟩
      | false =>
        have HN2 := Lib.hid (show (us.take (k + 1)).any badO = false from by rw [Htk.out, List.any_append, Hn.out, List.any_cons, Hbd.out]; rfl)
        rw [show (!rowB u.us) = false from Hbd.out]
        go_wp2_with fail
        go_roundw
        case rel => exact ⟨k + 1, by omega, by go_num, Lib.hid ⟨HB2.out, HN2.out⟩⟩
        case measure => simp [intOf]; omega
    · obtain rfl : k = us.length := by omega
      have hn := hR.out.2
      rw [List.take_length] at hn
      have Hn := Lib.hid hn
      have HB := Lib.hid hR.out.1
      clear hn hR
      go_wp2_with fail
      go_ret
      exact ⟨⟨-1, rfl, by rw [Hn.out]; rfl⟩, HB.out⟩
theorem contains_ops {w : World} {S : Nat → Prop} {v : Value} {us : List Opr} (h : OpsRd w S v us) (hl : us.length ≤ 1000000) (hlo : ∀ o ∈ us, o.us.length ≤ 1000000) :
    Calls Tryd.prog 68 #[v, .func (.func 69) #[] #[]] w fun x w' => x = .returned (.bool (us.any badO)) ∧ Below w.heap.size w w' := by
  have H := Lib.hid h
  clear h
  go_enter Tryd.func68, Tryd.ntmps68
  go_wp2_with fail
  refine (index_ops H.out hl hlo).mono ?_
  rintro _ w2 ⟨⟨i, rfl, hi⟩, hb⟩
  have HB := Lib.hid hb
  have Hi := Lib.hid hi
  clear hb hi
  go_wp2_with fail
  go_ret
  exact ⟨by rw [← Hi.out]; rfl, HB.out⟩
set_option maxHeartbeats 1600000 in
theorem index_sts {w : World} {S : Nat → Prop} {v : Value} {us : List St} (h : StsRd w S v us) (hl : us.length ≤ 1000000) :
    Calls Tryd.prog 86 #[v, .func (.func 71) #[] #[]] w fun x w' => (∃ i : Int, x = .returned (.int .i64 i) ∧ decide (0 ≤ i) = us.any badS) ∧ Below w.heap.size w w' := by
  obtain ⟨p, c, rfl⟩ := h.slice
  have H := Lib.hid h
  clear h
  go_enter Tryd.func86, Tryd.ntmps86
  go_wp2_with fail
  go_loopw [8] (fun iv wr => ∃ k : Nat, k ≤ us.length ∧ iv = .int .i64 k ∧ Hid (Below w.heap.size w wr ∧ (us.take k).any badS = false)) (fun iv _ => us.length - (intOf iv).toNat)
  case atStart => exact ⟨0, Nat.zero_le _, rfl, Lib.hid ⟨Below.refl _ w, rfl⟩⟩
  case round =>
    obtain ⟨k, hk, rfl, hR⟩ := hrel
    by_cases hlt : k < us.length
    · obtain ⟨g, off, rfl, hc, e0, e1, e2⟩ := (H.out.below hR.out.1).at_ hlt
      have Htk := Lib.hid (show us.take (k + 1) = us.take k ++ [us[k]] from List.take_succ_eq_append_getElem hlt)
      have Hin := Lib.hid (show us[k] ∈ us from List.getElem_mem hlt)
      generalize us[k]'hlt = u at *
      go_wp2_with fail
      refine may_st.mono ?_
      rintro _ w2 ⟨rfl, hb⟩
      have HB2 := Lib.hid (hR.out.1.trans (hb.mono hR.out.1.size))
      have Hn := Lib.hid hR.out.2
      obtain ⟨bb, hbd⟩ : ∃ x, badS u = x := ⟨_, rfl⟩
      have Hbd := Lib.hid hbd
      clear hb hR e0 e1 e2
      cases bb with
      | true =>
        have HA := Lib.hid (show us.any badS = true from List.any_eq_true.2 ⟨u, Hin.out, Hbd.out⟩)
        rw [show (!farB u.pos) = true from Hbd.out]
        go_wp2_with fail
        go_ret
        exact ⟨⟨k, rfl, by rw [HA.out]; simp⟩, HB2.out⟩
      | false =>
        have HN2 := Lib.hid (show (us.take (k + 1)).any badS = false from by rw [Htk.out, List.any_append, Hn.out, List.any_cons, Hbd.out]; rfl)
        rw [show (!farB u.pos) = false from Hbd.out]
        go_wp2_with fail
        go_roundw
        case rel => exact ⟨k + 1, by omega, by go_num, Lib.hid ⟨HB2.out, HN2.out⟩⟩
        case measure => simp [intOf]; omega
    · obtain rfl : k = us.length := by omega
      have hn := hR.out.2
      rw [List.take_length] at hn
      have Hn := Lib.hid hn
      have HB := Lib.hid hR.out.1
      clear hn hR
      go_wp2_with fail
      go_ret
      exact ⟨⟨-1, rfl, by rw [Hn.out]; rfl⟩, HB.out⟩
theorem contains_sts {w : World} {S : Nat → Prop} {v : Value} {us : List St} (h : StsRd w S v us) (hl : us.length ≤ 1000000) :
    Calls Tryd.prog 70 #[v, .func (.func 71) #[] #[]] w fun x w' => x = .returned (.bool (us.any badS)) ∧ Below w.heap.size w w' := by
  have H := Lib.hid h
  clear h
  go_enter Tryd.func70, Tryd.ntmps70
  go_wp2_with fail
  refine (index_sts H.out hl).mono ?_
  rintro _ w2 ⟨⟨i, rfl, hi⟩, hb⟩
  have HB := Lib.hid hb
  have Hi := Lib.hid hi
  clear hb hi
  go_wp2_with fail
  go_ret
  exact ⟨by rw [← Hi.out]; rfl, HB.out⟩

set_option maxHeartbeats 6400000 in
set_option maxRecDepth 100000 in
theorem cmd_mayAnswer {w : World} {S : Nat → Prop} {a : An} {p q s : Option Addr} {c d e : Nat} (ht : ChsRd w S (.slice p a.text.length c) a.text) (ho : OpsRd w S (.slice q a.ops.length d) a.ops) (hs : StsRd w S (.slice s a.seats.length e) a.seats) (hw : WfA a) :
    Calls Tryd.prog 36 #[.agg #[.int .i64 a.err, .int .u32 a.doc, .int .u64 a.rev, .bool a.whole, .slice p a.text.length c, .slice q a.ops.length d, .slice s a.seats.length e]] w fun x w' => x = .returned (.bool (mayAn a)) ∧ Below w.heap.size w w' := by
  have n1 := hw.text
  have n2 := hw.nops
  have n3 := hw.nseats
  have Hlo := Lib.hid (show ∀ o ∈ a.ops, o.us.length ≤ 1000000 from fun o ho => by have := (hw.ops o ho).few; omega)
  obtain ⟨r, hr⟩ : ∃ x, mayAn a = x := ⟨_, rfl⟩
  rw [hr]
  unfold mayAn mayT at hr
  obtain ⟨err, doc, rev, wh, text, ops, seats⟩ := a
  simp only at ht ho hs n1 n2 n3 hr Hlo ⊢
  have hb := (Below.refl w.heap.size w).alloc (Nat.le_refl _) (.cells #[.int .i64 err, .int .u32 doc, .int .u64 rev, .bool wh, .slice p text.length c, .slice q ops.length d, .slice s seats.length e] 41)
  have HK := Lib.hid (Blk.new w 41 #[.int .i64 err, .int .u32 doc, .int .u64 rev, .bool wh, .slice p text.length c, .slice q ops.length d, .slice s seats.length e])
  have HB := Lib.hid hb
  have HT := Lib.hid (ht.below hb)
  have HO := Lib.hid (ho.below hb)
  have HS := Lib.hid (hs.below hb)
  have dt : decide ((text.length : Int) ≤ 4096) = true := by simp; omega
  have dop : decide ((ops.length : Int) ≤ 256) = true := by simp; omega
  obtain ⟨tb, htb⟩ : ∃ x, text.any (fun c => !mayC c) = x := ⟨_, rfl⟩
  obtain ⟨ob, hob⟩ : ∃ x, ops.any badO = x := ⟨_, rfl⟩
  obtain ⟨sb, hsb⟩ : ∃ x, seats.any badS = x := ⟨_, rfl⟩
  rw [htb, hob, hsb] at hr
  have Htb := Lib.hid (show text.any badC = tb from htb)
  have Hob := Lib.hid hob
  have Hsb := Lib.hid hsb
  clear htb hob hsb hb ht ho hs hw
  have Ht : ∀ t : Bool, t = true ∨ t = false := fun t => by cases t <;> simp
  obtain ⟨d0, hd0⟩ : ∃ x, decide (0 ≤ err) = x := ⟨_, rfl⟩
  obtain ⟨d1, hd1⟩ : ∃ x, decide (rev ≤ 1099511627776) = x := ⟨_, rfl⟩
  obtain ⟨d2, hd2⟩ : ∃ x, decide ((text.length : Int) = 0) = x := ⟨_, rfl⟩
  obtain ⟨d3, hd3⟩ : ∃ x, decide ((seats.length : Int) ≤ 16) = x := ⟨_, rfl⟩
  rw [hd0, hd1, show decide (text.length = 0) = d2 by rw [← hd2]; simp, show decide (seats.length ≤ 16) = d3 by rw [← hd3]; simp; omega] at hr
  have e2 : ((text.length : Int) == (0 : Int)) = d2 := by rw [← hd2]; rfl
  have Hr := Lib.hid hr
  clear hr Ht hd2
  go_enter Tryd.func36, Tryd.ntmps36
  have hK := HK.out
  have m0 := hK.cell 0
  have m1 := hK.cell 1
  have m2 := hK.cell 2
  have m3 := hK.cell 3
  have m4 := hK.cell 4
  have m5 := hK.cell 5
  have m6 := hK.cell 6
  have hz := hK.lt
  simp only [List.getElem?_toArray, List.getElem?_cons_succ, List.getElem?_cons_zero] at m0 m1 m2 m3 m4 m5 m6
  clear hK
  cases wh with
  | true =>
    go_wp2_with fail
    refine (contains_chs HT.out (by omega)).mono ?_
    rintro _ w1 ⟨rfl, hb⟩
    rw [Htb.out]
    have HB1 := Lib.hid (HB.out.trans (hb.mono HB.out.size))
    have HK1 := Lib.hid (HK.out.below hb)
    have HT1 := Lib.hid (HT.out.below hb)
    have HO1 := Lib.hid (HO.out.below hb)
    have HS1 := Lib.hid (HS.out.below hb)
    clear hb HB HK HT HO HS m0 m1 m2 m3 m4 m5 m6 hz
    rename_i w0
    have HB := HB1
    have HK := HK1
    have HT := HT1
    have HO := HO1
    have HS := HS1
    clear HB1 HK1 HT1 HO1 HS1
    have hK := HK.out
    have m0 := hK.cell 0
    have m1 := hK.cell 1
    have m2 := hK.cell 2
    have m3 := hK.cell 3
    have m4 := hK.cell 4
    have m5 := hK.cell 5
    have m6 := hK.cell 6
    have hz := hK.lt
    simp only [List.getElem?_toArray, List.getElem?_cons_succ, List.getElem?_cons_zero] at m0 m1 m2 m3 m4 m5 m6
    clear hK
    go_wp2_with fail
    refine (contains_ops HO.out (by omega) Hlo.out).mono ?_
    rintro _ w1 ⟨rfl, hb⟩
    rw [Hob.out]
    have HB1 := Lib.hid (HB.out.trans (hb.mono HB.out.size))
    have HK1 := Lib.hid (HK.out.below hb)
    have HT1 := Lib.hid (HT.out.below hb)
    have HO1 := Lib.hid (HO.out.below hb)
    have HS1 := Lib.hid (HS.out.below hb)
    clear hb HB HK HT HO HS m0 m1 m2 m3 m4 m5 m6 hz
    rename_i w0
    have HB := HB1
    have HK := HK1
    have HT := HT1
    have HO := HO1
    have HS := HS1
    clear HB1 HK1 HT1 HO1 HS1
    have hK := HK.out
    have m0 := hK.cell 0
    have m1 := hK.cell 1
    have m2 := hK.cell 2
    have m3 := hK.cell 3
    have m4 := hK.cell 4
    have m5 := hK.cell 5
    have m6 := hK.cell 6
    have hz := hK.lt
    simp only [List.getElem?_toArray, List.getElem?_cons_succ, List.getElem?_cons_zero] at m0 m1 m2 m3 m4 m5 m6
    clear hK
    cases d3 with
    | false =>
      cases d0 with
      | false =>
        go_wp2_with fail
        go_ret
        exact ⟨by rw [← Hr.out]; simp, HB.out⟩
      | true =>
        cases d1 with
        | false =>
          go_wp2_with fail
          go_ret
          exact ⟨by rw [← Hr.out]; simp, HB.out⟩
        | true =>
          cases tb with
          | true =>
            go_wp2_with fail
            go_ret
            exact ⟨by rw [← Hr.out]; simp, HB.out⟩
          | false =>
            cases ob with
            | true =>
              go_wp2_with fail
              go_ret
              exact ⟨by rw [← Hr.out]; simp, HB.out⟩
            | false =>
              go_wp2_with fail
              go_ret
              exact ⟨by rw [← Hr.out]; simp, HB.out⟩
    | true =>
      go_wp2_with fail
      refine (contains_sts HS.out (by omega)).mono ?_
      rintro _ w1 ⟨rfl, hb⟩
      rw [Hsb.out]
      have HB1 := Lib.hid (HB.out.trans (hb.mono HB.out.size))
      have HK1 := Lib.hid (HK.out.below hb)
      have HT1 := Lib.hid (HT.out.below hb)
      have HO1 := Lib.hid (HO.out.below hb)
      have HS1 := Lib.hid (HS.out.below hb)
      clear hb HB HK HT HO HS m0 m1 m2 m3 m4 m5 m6 hz
      rename_i w0
      have HB := HB1
      have HK := HK1
      have HT := HT1
      have HO := HO1
      have HS := HS1
      clear HB1 HK1 HT1 HO1 HS1
      have hK := HK.out
      have m0 := hK.cell 0
      have m1 := hK.cell 1
      have m2 := hK.cell 2
      have m3 := hK.cell 3
      have m4 := hK.cell 4
      have m5 := hK.cell 5
      have m6 := hK.cell 6
      have hz := hK.lt
      simp only [List.getElem?_toArray, List.getElem?_cons_succ, List.getElem?_cons_zero] at m0 m1 m2 m3 m4 m5 m6
      clear hK
      cases d0 with
      | false =>
        go_wp2_with fail
        go_ret
        exact ⟨by rw [← Hr.out]; simp, HB.out⟩
      | true =>
        cases d1 with
        | false =>
          go_wp2_with fail
          go_ret
          exact ⟨by rw [← Hr.out]; simp, HB.out⟩
        | true =>
          cases tb with
          | true =>
            go_wp2_with fail
            go_ret
            exact ⟨by rw [← Hr.out]; simp, HB.out⟩
          | false =>
            cases ob with
            | true =>
              go_wp2_with fail
              go_ret
              exact ⟨by rw [← Hr.out]; simp, HB.out⟩
            | false =>
              go_wp2_with fail
              go_ret
              exact ⟨by rw [← Hr.out]; simp, HB.out⟩
  | false =>
    cases d2 with
    | true =>
      go_wp2_with fail
      refine (contains_chs HT.out (by omega)).mono ?_
      rintro _ w1 ⟨rfl, hb⟩
      rw [Htb.out]
      have HB1 := Lib.hid (HB.out.trans (hb.mono HB.out.size))
      have HK1 := Lib.hid (HK.out.below hb)
      have HT1 := Lib.hid (HT.out.below hb)
      have HO1 := Lib.hid (HO.out.below hb)
      have HS1 := Lib.hid (HS.out.below hb)
      clear hb HB HK HT HO HS m0 m1 m2 m3 m4 m5 m6 hz
      rename_i w0
      have HB := HB1
      have HK := HK1
      have HT := HT1
      have HO := HO1
      have HS := HS1
      clear HB1 HK1 HT1 HO1 HS1
      have hK := HK.out
      have m0 := hK.cell 0
      have m1 := hK.cell 1
      have m2 := hK.cell 2
      have m3 := hK.cell 3
      have m4 := hK.cell 4
      have m5 := hK.cell 5
      have m6 := hK.cell 6
      have hz := hK.lt
      simp only [List.getElem?_toArray, List.getElem?_cons_succ, List.getElem?_cons_zero] at m0 m1 m2 m3 m4 m5 m6
      clear hK
      go_wp2_with fail
      refine (contains_ops HO.out (by omega) Hlo.out).mono ?_
      rintro _ w1 ⟨rfl, hb⟩
      rw [Hob.out]
      have HB1 := Lib.hid (HB.out.trans (hb.mono HB.out.size))
      have HK1 := Lib.hid (HK.out.below hb)
      have HT1 := Lib.hid (HT.out.below hb)
      have HO1 := Lib.hid (HO.out.below hb)
      have HS1 := Lib.hid (HS.out.below hb)
      clear hb HB HK HT HO HS m0 m1 m2 m3 m4 m5 m6 hz
      rename_i w0
      have HB := HB1
      have HK := HK1
      have HT := HT1
      have HO := HO1
      have HS := HS1
      clear HB1 HK1 HT1 HO1 HS1
      have hK := HK.out
      have m0 := hK.cell 0
      have m1 := hK.cell 1
      have m2 := hK.cell 2
      have m3 := hK.cell 3
      have m4 := hK.cell 4
      have m5 := hK.cell 5
      have m6 := hK.cell 6
      have hz := hK.lt
      simp only [List.getElem?_toArray, List.getElem?_cons_succ, List.getElem?_cons_zero] at m0 m1 m2 m3 m4 m5 m6
      clear hK
      cases d3 with
      | false =>
        cases d0 with
        | false =>
          go_wp2_with fail
          go_ret
          exact ⟨by rw [← Hr.out]; simp, HB.out⟩
        | true =>
          cases d1 with
          | false =>
            go_wp2_with fail
            go_ret
            exact ⟨by rw [← Hr.out]; simp, HB.out⟩
          | true =>
            cases tb with
            | true =>
              go_wp2_with fail
              go_ret
              exact ⟨by rw [← Hr.out]; simp, HB.out⟩
            | false =>
              cases ob with
              | true =>
                go_wp2_with fail
                go_ret
                exact ⟨by rw [← Hr.out]; simp, HB.out⟩
              | false =>
                go_wp2_with fail
                go_ret
                exact ⟨by rw [← Hr.out]; simp, HB.out⟩
      | true =>
        go_wp2_with fail
        refine (contains_sts HS.out (by omega)).mono ?_
        rintro _ w1 ⟨rfl, hb⟩
        rw [Hsb.out]
        have HB1 := Lib.hid (HB.out.trans (hb.mono HB.out.size))
        have HK1 := Lib.hid (HK.out.below hb)
        have HT1 := Lib.hid (HT.out.below hb)
        have HO1 := Lib.hid (HO.out.below hb)
        have HS1 := Lib.hid (HS.out.below hb)
        clear hb HB HK HT HO HS m0 m1 m2 m3 m4 m5 m6 hz
        rename_i w0
        have HB := HB1
        have HK := HK1
        have HT := HT1
        have HO := HO1
        have HS := HS1
        clear HB1 HK1 HT1 HO1 HS1
        have hK := HK.out
        have m0 := hK.cell 0
        have m1 := hK.cell 1
        have m2 := hK.cell 2
        have m3 := hK.cell 3
        have m4 := hK.cell 4
        have m5 := hK.cell 5
        have m6 := hK.cell 6
        have hz := hK.lt
        simp only [List.getElem?_toArray, List.getElem?_cons_succ, List.getElem?_cons_zero] at m0 m1 m2 m3 m4 m5 m6
        clear hK
        cases d0 with
        | false =>
          go_wp2_with fail
          go_ret
          exact ⟨by rw [← Hr.out]; simp, HB.out⟩
        | true =>
          cases d1 with
          | false =>
            go_wp2_with fail
            go_ret
            exact ⟨by rw [← Hr.out]; simp, HB.out⟩
          | true =>
            cases tb with
            | true =>
              go_wp2_with fail
              go_ret
              exact ⟨by rw [← Hr.out]; simp, HB.out⟩
            | false =>
              cases ob with
              | true =>
                go_wp2_with fail
                go_ret
                exact ⟨by rw [← Hr.out]; simp, HB.out⟩
              | false =>
                go_wp2_with fail
                go_ret
                exact ⟨by rw [← Hr.out]; simp, HB.out⟩
    | false =>
      go_wp2_with fail
      refine (contains_ops HO.out (by omega) Hlo.out).mono ?_
      rintro _ w1 ⟨rfl, hb⟩
      rw [Hob.out]
      have HB1 := Lib.hid (HB.out.trans (hb.mono HB.out.size))
      have HK1 := Lib.hid (HK.out.below hb)
      have HT1 := Lib.hid (HT.out.below hb)
      have HO1 := Lib.hid (HO.out.below hb)
      have HS1 := Lib.hid (HS.out.below hb)
      clear hb HB HK HT HO HS m0 m1 m2 m3 m4 m5 m6 hz
      rename_i w0
      have HB := HB1
      have HK := HK1
      have HT := HT1
      have HO := HO1
      have HS := HS1
      clear HB1 HK1 HT1 HO1 HS1
      have hK := HK.out
      have m0 := hK.cell 0
      have m1 := hK.cell 1
      have m2 := hK.cell 2
      have m3 := hK.cell 3
      have m4 := hK.cell 4
      have m5 := hK.cell 5
      have m6 := hK.cell 6
      have hz := hK.lt
      simp only [List.getElem?_toArray, List.getElem?_cons_succ, List.getElem?_cons_zero] at m0 m1 m2 m3 m4 m5 m6
      clear hK
      cases d3 with
      | false =>
        cases d0 with
        | false =>
          go_wp2_with fail
          go_ret
          exact ⟨by rw [← Hr.out]; simp, HB.out⟩
        | true =>
          cases d1 with
          | false =>
            go_wp2_with fail
            go_ret
            exact ⟨by rw [← Hr.out]; simp, HB.out⟩
          | true =>
            go_wp2_with fail
            go_ret
            exact ⟨by rw [← Hr.out]; simp, HB.out⟩
      | true =>
        go_wp2_with fail
        refine (contains_sts HS.out (by omega)).mono ?_
        rintro _ w1 ⟨rfl, hb⟩
        rw [Hsb.out]
        have HB1 := Lib.hid (HB.out.trans (hb.mono HB.out.size))
        have HK1 := Lib.hid (HK.out.below hb)
        have HT1 := Lib.hid (HT.out.below hb)
        have HO1 := Lib.hid (HO.out.below hb)
        have HS1 := Lib.hid (HS.out.below hb)
        clear hb HB HK HT HO HS m0 m1 m2 m3 m4 m5 m6 hz
        rename_i w0
        have HB := HB1
        have HK := HK1
        have HT := HT1
        have HO := HO1
        have HS := HS1
        clear HB1 HK1 HT1 HO1 HS1
        have hK := HK.out
        have m0 := hK.cell 0
        have m1 := hK.cell 1
        have m2 := hK.cell 2
        have m3 := hK.cell 3
        have m4 := hK.cell 4
        have m5 := hK.cell 5
        have m6 := hK.cell 6
        have hz := hK.lt
        simp only [List.getElem?_toArray, List.getElem?_cons_succ, List.getElem?_cons_zero] at m0 m1 m2 m3 m4 m5 m6
        clear hK
        cases d0 with
        | false =>
          go_wp2_with fail
          go_ret
          exact ⟨by rw [← Hr.out]; simp, HB.out⟩
        | true =>
          cases d1 with
          | false =>
            go_wp2_with fail
            go_ret
            exact ⟨by rw [← Hr.out]; simp, HB.out⟩
          | true =>
            go_wp2_with fail
            go_ret
            exact ⟨by rw [← Hr.out]; simp, HB.out⟩
end Go.Proofs.YtciojggkcmdjiaaDoor
