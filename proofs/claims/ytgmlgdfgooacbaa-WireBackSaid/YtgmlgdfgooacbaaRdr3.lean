/-
  The Reader, at last: Bytes, Str, End; the reader that is none: contracts. (Printed by wip/gen_rdr3.py.)
-/
import Derived.Test.YtgmlgdfgooacbaaRdr2
namespace Go.Proofs.Ytgmlgdfgooacbaa
open Go.RowKit
set_option linter.unusedSimpArgs false
set_option linter.unusedVariables false

set_option maxHeartbeats 1600000 in
theorem bytes_1_short {w : World} {lo a gN gR n : Nat} {d : Value} {s : RS} (h : RdAt w lo a s) (kN : Blk w gN 3 #[.int .i64 n]) (kR : Blk w gR 42 #[.pointer (some ⟨a, 0, none⟩)]) (hn : s.b.length < n) :
    Calls Try.prog 43 #[.pointer (some ⟨gN, 0, none⟩), .pointer (some ⟨gR, 0, none⟩), d] w fun x w' =>
      x = .returned (.tuple #[.int .i64 0, .int .i64 4]) ∧ w' = w.drew := by
  obtain ⟨bs, er⟩ := s
  obtain ⟨v, hB, hR⟩ : ∃ v, Blk w a 61 #[v, .int .i64 er, .bool true] ∧ CmdRd w (fun k => lo ≤ k ∧ k < a) v bs := h
  have hlen : bs.length ≤ maxLen := Rd.le hR
  unfold maxLen at hlen
  obtain ⟨p, c, rfl⟩ := hR.slice
  have hcb : bs.length ≤ c := by obtain ⟨_, _, _, h, h1, _⟩ := hR; injection h with _ _ h; omega
  have hcm : c ≤ maxLen := by obtain ⟨_, _, _, h, _, h1, _⟩ := hR; injection h with _ _ h; omega
  unfold maxLen at hcm
  obtain ⟨a0, a1, a2, f0, f1, f2, hz⟩ := hB.c3
  obtain ⟨n0, n1, hz1⟩ := kN.c1
  obtain ⟨r0, r1, hz2⟩ := kR.c1
  have HR := Lib.hid hR
  have hn' : bs.length < n := hn
  clear hB hR kN kR hn
  go_enter Try.func43, Try.ntmps43
  go_wp2_with fail
  have hS : Hold3 (gN, 0, .int .i64 n) (gR, 0, .pointer (some ⟨a, 0, none⟩)) (a, 0, .slice p bs.length c) w.drew := ⟨n0, r0, a0⟩
  have hT : Hold0 w.drew := trivial
  refine begin_D [] (by kernel_rfl) hS (fun _ => hT) ?_
  refine take_S (v := ?v0x) 0 rfl (by kernel_rfl) (by kernel_rfl) (by kernel_rfl) (by kernel_rfl) (fun _ _ _ h => h) hS (fun _ => trivial) rfl (fun w' hq => ?h0x) ?_
  case h0x => obtain ⟨hq0, hq1, hq2⟩ := hq; change _ = some _ at hq0; change _ = some _ at hq1; change _ = some _ at hq2; go_simp; try with_reducible rfl
  try simp only [Act.put, List.setIfInBounds_toArray, List.set_cons_zero, List.set_cons_succ, List.getElem_toArray, List.getElem_cons_succ, List.getElem_cons_zero]
  refine take_S (v := ?v1x) 1 rfl (by kernel_rfl) (by kernel_rfl) (by kernel_rfl) (by kernel_rfl) (fun _ _ _ h => h) hS (fun _ => trivial) rfl (fun w' hq => ?h1x) ?_
  case h1x => obtain ⟨hq0, hq1, hq2⟩ := hq; change _ = some _ at hq0; change _ = some _ at hq1; change _ = some _ at hq2; go_simp; try with_reducible rfl
  try simp only [Act.put, List.setIfInBounds_toArray, List.set_cons_zero, List.set_cons_succ, List.getElem_toArray, List.getElem_cons_succ, List.getElem_cons_zero]
  refine take_S (v := ?v2x) 2 rfl (by kernel_rfl) (by kernel_rfl) (by kernel_rfl) (by kernel_rfl) (fun _ _ _ h => h) hS (fun _ => trivial) rfl (fun w' hq => ?h2x) ?_
  case h2x => obtain ⟨hq0, hq1, hq2⟩ := hq; change _ = some _ at hq0; change _ = some _ at hq1; change _ = some _ at hq2; go_simp; try with_reducible rfl
  try simp only [Act.put, List.setIfInBounds_toArray, List.set_cons_zero, List.set_cons_succ, List.getElem_toArray, List.getElem_cons_succ, List.getElem_cons_zero]
  refine take_S (v := ?v3x) 3 rfl (by kernel_rfl) (by kernel_rfl) (by kernel_rfl) (by kernel_rfl) (fun _ _ _ h => h) hS (fun _ => trivial) rfl (fun w' hq => ?h3x) ?_
  case h3x => obtain ⟨hq0, hq1, hq2⟩ := hq; change _ = some _ at hq0; change _ = some _ at hq1; change _ = some _ at hq2; go_simp; try with_reducible rfl
  try simp only [Act.put, List.setIfInBounds_toArray, List.set_cons_zero, List.set_cons_succ, List.getElem_toArray, List.getElem_cons_succ, List.getElem_cons_zero]
  refine take_S (v := ?v4x) 4 rfl (by kernel_rfl) (by kernel_rfl) (by kernel_rfl) (by kernel_rfl) (fun _ _ _ h => h) hS (fun _ => trivial) rfl (fun w' hq => ?h4x) ?_
  case h4x => obtain ⟨hq0, hq1, hq2⟩ := hq; change _ = some _ at hq0; change _ = some _ at hq1; change _ = some _ at hq2; go_simp; try with_reducible rfl
  try simp only [Act.put, List.setIfInBounds_toArray, List.set_cons_zero, List.set_cons_succ, List.getElem_toArray, List.getElem_cons_succ, List.getElem_cons_zero]
  refine take_S (v := ?v5x) 5 rfl (by kernel_rfl) (by kernel_rfl) (by kernel_rfl) (by kernel_rfl) (fun _ _ _ h => h) hS (fun _ => trivial) rfl (fun w' hq => ?h5x) ?_
  case h5x => obtain ⟨hq0, hq1, hq2⟩ := hq; change _ = some _ at hq0; change _ = some _ at hq1; change _ = some _ at hq2; go_simp; try with_reducible rfl
  try simp only [Act.put, List.setIfInBounds_toArray, List.set_cons_zero, List.set_cons_succ, List.getElem_toArray, List.getElem_cons_succ, List.getElem_cons_zero]
  refine take_S (v := ?v6x) 6 rfl (by kernel_rfl) (by kernel_rfl) (by kernel_rfl) (by kernel_rfl) (fun _ _ _ h => h) hS (fun _ => trivial) rfl (fun w' hq => ?h6x) ?_
  case h6x => obtain ⟨hq0, hq1, hq2⟩ := hq; change _ = some _ at hq0; change _ = some _ at hq1; change _ = some _ at hq2; go_simp; try with_reducible rfl
  try simp only [Act.put, List.setIfInBounds_toArray, List.set_cons_zero, List.set_cons_succ, List.getElem_toArray, List.getElem_cons_succ, List.getElem_cons_zero]
  refine done_D (by kernel_rfl) ?_ _
  clear hS hT
  go_wp2_with fail
  go_ret2
  exact ⟨rfl, rfl⟩

set_option maxHeartbeats 3200000 in
theorem rd_Bytes {w : World} {lo a : Nat} {s : RS} {most : Int} (h : RdAt w lo a s) (hle : lo ≤ a) (hm : most ≤ 9223372036854775807) (hb : s.b.length ≤ 200000000000000) :
    Calls Try.prog 25 #[.pointer (some ⟨a, 0, none⟩), .int .i64 most] w fun x w' => ∃ v, x = .returned v ∧ CmdOwn w' w.heap.size v (rdBytes s most).1 ∧ RdAt w' lo a (rdBytes s most).2 ∧ Ext (· = a) w w' := by
  have hz := h.lt
  have hb1 := (Below.refl w.heap.size w).alloc (Nat.le_refl _) (.cells #[.pointer (some ⟨a, 0, none⟩)] 42)
  have hb2 := hb1.alloc (by simp) (.cells #[.slice none 0 0] 23)
  have H := Lib.hid (h.below hb2)
  have k1 := (Blk.new w 42 #[.pointer (some ⟨a, 0, none⟩)]).alloc (.cells #[.slice none 0 0] 23)
  have k2 := Blk.new (w.alloc (.cells #[.pointer (some ⟨a, 0, none⟩)] 42)) 23 #[.slice none 0 0]
  rw [World.size_alloc] at k2
  have HB := Lib.hid hb2
  have K1 := Lib.hid k1
  have K2 := Lib.hid k2
  have hlen : (rdCount s most).2.b.length ≤ 200000000000000 := by
    refine Nat.le_trans ?_ hb
    have hF : ∀ (t : RS) x, (rdFail t x).b.length = t.b.length := fun t x => by unfold rdFail; split <;> rfl
    have hN : (rdNum s).2.b.length ≤ s.b.length := by
      unfold rdNum
      split
      · split
        · show (s.b.drop _).length ≤ _
          rw [List.length_drop]; omega
        · exact Nat.le_refl _
      · exact Nat.le_refl _
    unfold rdCount rdUpto
    split
    · show (rdFail _ _).b.length ≤ _
      rw [hF]; exact hN
    · exact hN
  clear h hb1 hb2 k1 k2 hb
  by_cases he : (rdCount s most).2.e = 0
  · by_cases hn : (rdCount s most).1 ≤ (rdCount s most).2.b.length
    · have e1 : (rdBytes s most).1 = (rdCount s most).2.b.take (rdCount s most).1 := by simp [rdBytes, he, hn]
      have e2 : (rdBytes s most).2 = ⟨(rdCount s most).2.b.drop (rdCount s most).1, 0⟩ := by simp [rdBytes, he, hn]
      rw [e1, e2]
      clear e1 e2
      obtain ⟨n, hnn⟩ : ∃ n, (rdCount s most).1 = n := ⟨_, rfl⟩
      have Hn := Lib.hid hnn
      have he' : (rdCount s most).2 = ⟨(rdCount s most).2.b, 0⟩ := by
        cases h : (rdCount s most).2 with
        | mk b e => rw [h] at he; simp at he; rw [he]
      have He := Lib.hid he'
      clear he he' hnn
      go_enter Try.func25, Try.ntmps25
      go_wp2_with fail
      refine (rd_Count H.out hle hm).mono ?_
      rintro x w1 ⟨rfl, hr, hX⟩
      have k1 := Blk.ext K1.out hX (by omega)
      have k2 := Blk.ext K2.out hX (by omega)
      have hXc := (Ext.of_below (fun k => k = a) HB.out).trans hX
      have hzw := hXc.size
      have hb3 := (Below.refl w1.heap.size w1).alloc (Nat.le_refl _) (.cells #[.int .i64 (rdCount s most).1] 3)
      have HR := Lib.hid (hr.below hb3)
      have kR := k1.alloc (.cells #[.int .i64 (rdCount s most).1] 3)
      have kB := k2.alloc (.cells #[.int .i64 (rdCount s most).1] 3)
      have kN := Blk.new w1 3 #[.int .i64 (rdCount s most).1]
      obtain ⟨m0, n0, hz3⟩ := kR.c1
      obtain ⟨m1, n1, hz4⟩ := kB.c1
      have KR := Lib.hid kR
      have KB := Lib.hid kB
      have KN := Lib.hid kN
      have hz5 : w.heap.size + 1 < w1.heap.size := k2.lt
      have HX := Lib.hid (hXc.trans (Ext.of_below (fun k => k = a) hb3))
      clear hr hX k1 k2 hXc hb3 kR kB kN H K1 K2 HB
      go_wp2_with fail
      have hr := HR.out
      rw [He.out] at hr
      have hKN := KN.out
      have HR2 := Lib.hid hr
      clear hr hKN
      refine (reads_ok (k := (rdCount s most).1) (R := fun w2 => Took (w1.alloc (.cells #[.int .i64 (rdCount s most).1] 3)) w2 (w.heap.size + 1) (rdCount s most).1 (rdCount s most).2.b) HR2.out hle hn (enter_f 43 (by kernel_rfl)) ?_).mono ?_
      · refine (bytes_1 HR2.out KN.out KR.out KB.out hn hlen).mono ?_
        rintro x w2 ⟨rfl, hT⟩
        refine ⟨rfl, ?_, hT⟩
        obtain ⟨p, c, -, -, hX⟩ := hT
        exact HR2.out.ext hX (fun k h1 h2 e => by have : k = w.heap.size + 1 := e; omega) hle
      · rintro x w3 ⟨rfl, w2, ⟨p, c, kk, ho, hX2⟩, hX3, hr⟩
        have k3 := Blk.ext kk hX3 (by omega)
        have ho3 : w3.ownsRow (w1.heap.size + 1) 5 1 (.slice p (rdCount s most).1 c) (rdCount s most).1 (bcells ((rdCount s most).2.b.take (rdCount s most).1)) := by
          have ho' := ho
          rw [World.size_alloc] at ho'
          refine own_keep ho' fun k h1 h2 h3 => hX3.block k h2 (fun e => ?_)
          have : k = a := e
          omega
        obtain ⟨m2, n2, hz6⟩ := k3.c1
        have K3 := Lib.hid k3
        have HO := Lib.hid ho3
        have HR3 := Lib.hid hr
        have hX4 : Ext (fun k => k = a ∨ w.heap.size ≤ k) w w3 := by
          refine ((HX.out.mono (fun k _ e => .inl e)).trans (hX2.mono (fun k _ e => .inr ?_))).trans (hX3.mono (fun k _ e => .inl e))
          have : k = w.heap.size + 1 := e
          omega
        have HX4 := Lib.hid hX4
        clear kk ho hX2 hX3 hr k3 ho3 hX4
        go_wp2_with fail
        have hl : ((rdCount s most).2.b.take (rdCount s most).1).length = (rdCount s most).1 := by rw [List.length_take]; omega
        refine bodyPost_ret (v := .slice p (rdCount s most).1 c) (by simp [results, Try.results25, go_sem, m2]) rfl ⟨_, rfl, ?_, ?_, ?_⟩
        · unfold CmdOwn
          rw [hl]
          exact own_base (own_set HO.out K3.out (by decide) _ _) (by omega)
        · exact HR3.out.far (by omega) hle _
        · have h := HX4.out.setCell (p := ⟨w.heap.size + 1, 0, none⟩) (.inr (by simp)) (.slice p (rdCount s most).1 c)
          exact ⟨h.os, h.tape, h.output, h.size, fun k hk hn => h.block k hk (fun hh => by rcases hh with hh | hh; exact hn hh; omega)⟩
    · have e1 : (rdBytes s most).1 = [] := by simp [rdBytes, he, hn]
      have e2 : (rdBytes s most).2 = ⟨(rdCount s most).2.b, 4⟩ := by simp [rdBytes, he, hn]
      rw [e1, e2]
      clear e1 e2
      have he' : (rdCount s most).2 = ⟨(rdCount s most).2.b, 0⟩ := by
        cases h : (rdCount s most).2 with
        | mk b e => rw [h] at he; simp at he; rw [he]
      have He := Lib.hid he'
      clear he he'
      go_enter Try.func25, Try.ntmps25
      go_wp2_with fail
      refine (rd_Count H.out hle hm).mono ?_
      rintro x w1 ⟨rfl, hr, hX⟩
      have k1 := Blk.ext K1.out hX (by omega)
      have k2 := Blk.ext K2.out hX (by omega)
      have hXc := (Ext.of_below (fun k => k = a) HB.out).trans hX
      have hzw := hXc.size
      have hb3 := (Below.refl w1.heap.size w1).alloc (Nat.le_refl _) (.cells #[.int .i64 (rdCount s most).1] 3)
      have HR := Lib.hid (hr.below hb3)
      have kR := k1.alloc (.cells #[.int .i64 (rdCount s most).1] 3)
      have kB := k2.alloc (.cells #[.int .i64 (rdCount s most).1] 3)
      have kN := Blk.new w1 3 #[.int .i64 (rdCount s most).1]
      obtain ⟨m0, n0, hz3⟩ := kR.c1
      obtain ⟨m1, n1, hz4⟩ := kB.c1
      have KR := Lib.hid kR
      have KB := Lib.hid kB
      have KN := Lib.hid kN
      have hz5 : w.heap.size + 1 < w1.heap.size := k2.lt
      have HX := Lib.hid (hXc.trans (Ext.of_below (fun k => k = a) hb3))
      clear hr hX k1 k2 hXc hb3 kR kB kN H K1 K2 HB
      go_wp2_with fail
      have hr := HR.out
      rw [He.out] at hr
      have HR2 := Lib.hid hr
      clear hr
      refine (reads_err (k := 0) (er := 4) (R := fun w2 => w2 = (w1.alloc (.cells #[.int .i64 (rdCount s most).1] 3)).drew) HR2.out hle (by decide) (enter_f 43 (by kernel_rfl)) ?_).mono ?_
      · refine (bytes_1_short HR2.out KN.out KR.out (by show (rdCount s most).2.b.length < _; omega)).mono ?_
        rintro x w2 ⟨rfl, rfl⟩
        exact ⟨rfl, HR2.out.below (Below.refl _ _).drew, rfl⟩
      · rintro x w3 ⟨rfl, w2, rfl, hX3, hr⟩
        have k3 := Blk.ext KB.out.drew hX3 (by omega)
        obtain ⟨m2, n2, hz6⟩ := k3.c1
        have K3 := Lib.hid k3
        have HR3 := Lib.hid hr
        have HX4 := Lib.hid ((HX.out.trans (Ext.of_below (fun k => k = a) (Below.refl _ _).drew)).trans hX3)
        clear hX3 hr k3
        go_wp2_with fail
        refine bodyPost_ret (v := .slice none 0 0) (by simp [results, Try.results25, go_sem, m2]) rfl ⟨_, rfl, World.ownsRow_nil _ _ _ _, ?_, ?_⟩
        · exact HR3.out.far (by omega) hle _
        · exact HX4.out.setCell (p := ⟨w.heap.size + 1, 0, none⟩) (.inr (by simp)) _
  · have e1 : (rdBytes s most).1 = [] := by simp [rdBytes, he]
    have e2 : (rdBytes s most).2 = (rdCount s most).2 := by simp [rdBytes, he]
    rw [e1, e2]
    clear e1 e2
    have He := Lib.hid he
    clear he
    go_enter Try.func25, Try.ntmps25
    go_wp2_with fail
    refine (rd_Count H.out hle hm).mono ?_
    rintro x w1 ⟨rfl, hr, hX⟩
    have k1 := Blk.ext K1.out hX (by omega)
    have k2 := Blk.ext K2.out hX (by omega)
    have hXc := (Ext.of_below (fun k => k = a) HB.out).trans hX
    have hzw := hXc.size
    have hb3 := (Below.refl w1.heap.size w1).alloc (Nat.le_refl _) (.cells #[.int .i64 (rdCount s most).1] 3)
    have HR := Lib.hid (hr.below hb3)
    have kR := k1.alloc (.cells #[.int .i64 (rdCount s most).1] 3)
    have kB := k2.alloc (.cells #[.int .i64 (rdCount s most).1] 3)
    have kN := Blk.new w1 3 #[.int .i64 (rdCount s most).1]
    obtain ⟨m0, n0, hz3⟩ := kR.c1
    obtain ⟨m1, n1, hz4⟩ := kB.c1
    have KR := Lib.hid kR
    have KB := Lib.hid kB
    have KN := Lib.hid kN
    have hz5 : w.heap.size + 1 < w1.heap.size := k2.lt
    have HX := Lib.hid (hXc.trans (Ext.of_below (fun k => k = a) hb3))
    clear hr hX k1 k2 hXc hb3 kR kB kN H K1 K2 HB
    go_wp2_with fail
    refine (reads_no HR.out He.out).mono ?_
    rintro x w3 ⟨rfl, rfl⟩
    generalize w1.alloc (.cells #[.int .i64 (rdCount s most).1] 3) = W at *
    go_wp2_with fail
    refine bodyPost_ret (v := .slice none 0 0) (by simp [results, Try.results25, go_sem, m1]) rfl ⟨_, rfl, World.ownsRow_nil _ _ _ _, ?_, ?_⟩
    · first | exact HR.out | exact HR.out.far (by omega) hle _
    · first | exact HX.out | exact HX.out.setCell (p := ⟨w.heap.size + 1, 0, none⟩) (.inr (by simp)) _

theorem run_str_own {w : World} {base : Nat} {p : Option Addr} {c : Nat} {bs : List UInt8} (h : CmdOwn w base (.slice p bs.length c) bs) :
    (convert 23 9 (.slice p bs.length c)).run Try.prog w = .ok (.string ⟨bs.toArray⟩) w := Rd.str h.rd

set_option maxHeartbeats 800000 in
theorem rd_Str {w : World} {lo a : Nat} {s : RS} {most : Int} (h : RdAt w lo a s) (hle : lo ≤ a) (hm : most ≤ 9223372036854775807) (hb : s.b.length ≤ 200000000000000) :
    Calls Try.prog 26 #[.pointer (some ⟨a, 0, none⟩), .int .i64 most] w fun x w' => x = .returned (.string ⟨(rdBytes s most).1.toArray⟩) ∧ RdAt w' lo a (rdBytes s most).2 ∧ Ext (· = a) w w' := by
  have H := Lib.hid h
  clear h
  go_enter Try.func26, Try.ntmps26
  go_wp2_with fail
  refine (rd_Bytes H.out hle hm hb).mono ?_
  rintro x w1 ⟨v, rfl, ho, hr, hX⟩
  obtain ⟨p, c, rfl⟩ := ho.slice
  have hs := run_str_own ho
  have HR := Lib.hid hr
  have HX := Lib.hid hX
  clear hr hX ho
  go_wp2_with fail
  go_ret
  exact ⟨rfl, HR.out, HX.out⟩

set_option maxHeartbeats 800000 in
theorem rd_End {w : World} {lo a : Nat} {s : RS} (h : RdAt w lo a s) (hle : lo ≤ a) :
    Calls Try.prog 31 #[.pointer (some ⟨a, 0, none⟩)] w fun x w' => x = .returned (.int .i64 (rdEnd s).e) ∧ RdAt w' lo a (rdEnd s) ∧ Ext (· = a) w w' := by
  have H := Lib.hid h
  clear h
  by_cases hc : 0 < rdLeft s
  · have e : rdEnd s = rdFail s 3 := by simp [rdEnd, hc]
    rw [e]
    clear e
    have t1 : decide ((0 : Int) < (rdLeft s : Int)) = true := by simpa using hc
    go_enter Try.func31, Try.ntmps31
    go_wp2_with fail
    refine (rd_Left H.out).mono ?_
    rintro x w1 ⟨rfl, rfl⟩
    go_wp2_with fail
    refine (rd_Fail (x := 3) H.out hle).mono ?_
    rintro x w2 ⟨rfl, hR, hX⟩
    have HR2 := Lib.hid hR
    have HX2 := Lib.hid hX
    clear hR hX
    go_wp2_with fail
    refine (rd_Err HR2.out).mono ?_
    rintro x w3 ⟨rfl, rfl⟩
    go_wp2_with fail
    go_ret
    exact ⟨rfl, HR2.out, HX2.out⟩
  · have e : rdEnd s = s := by simp [rdEnd, hc]
    rw [e]
    clear e
    have hz : rdLeft s = 0 := by omega
    have t1 : decide (0 < rdLeft s) = false := by simpa using hz
    clear hz hc
    go_enter Try.func31, Try.ntmps31
    go_wp2_with fail
    refine (rd_Left H.out).mono ?_
    rintro x w1 ⟨rfl, rfl⟩
    go_wp2_with fail
    refine (rd_Err H.out).mono ?_
    rintro x w3 ⟨rfl, rfl⟩
    go_wp2_with fail
    go_ret
    exact ⟨rfl, H.out, Ext.refl _ _⟩
end Go.Proofs.Ytgmlgdfgooacbaa
