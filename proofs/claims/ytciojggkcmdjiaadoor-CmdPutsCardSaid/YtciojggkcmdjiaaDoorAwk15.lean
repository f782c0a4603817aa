/-
  copybooklaw15.awake is true.
-/
import Derived.Test.YtciojggkcmdjiaaDoorAns15
import Derived.Test.YtciojggkcmdjiaaDoorParse15
namespace Go.Proofs.YtciojggkcmdjiaaDoor
open Go.RowKit
set_option linter.unusedSimpArgs false
set_option linter.unusedVariables false

theorem rd_new {w : World} {bs : List UInt8} {n : Nat} (hn : n = bs.length) (hm : n ≤ maxLen) : Rd (w.alloc (.cells (bcells bs).toArray 5)) (fun k => k = w.heap.size) 1 (.slice (some ⟨w.heap.size, 0, none⟩) n n) n (bcells bs) := by
  subst hn
  refine ⟨by rw [bcells_len, Nat.mul_one], _, _, rfl, Nat.le_refl _, hm, fun h0 => ⟨_, 0, rfl, rfl, fun j u hu => ?_⟩⟩
  rw [Nat.zero_add]
  have := news_of_block (heap_alloc_new w (.cells (bcells bs).toArray 5)) j u hu
  rwa [show ((⟨w.heap.size, 0, none⟩ : Addr).add j) = ⟨w.heap.size, j, none⟩ from by unfold Addr.add; split <;> simp_all] at this
theorem decB_nil : decB [] = 0 := by
  unfold decB
  rw [if_neg (by have := wholeB_le []; simp only [List.length_nil] at this ⊢; omega)]
theorem psDec_nil {b : List UInt8} (h : (psName b).1 = []) : psDec b = (psName b).2 := by
  unfold psDec
  rw [h, decB_nil, if_pos rfl]
theorem psEnd_nil {b : List UInt8} (h : (psName b).1 = []) : psEnd b = rdEnd (rdUs (rdUpto (rdUpto (psName b).2 1099511627776).2 2147483648).2).2 := by
  unfold psEnd psUs psPos psRev
  rw [psDec_nil h]
theorem pe1 : pCmd [2, 5, 0, 7, 0] = (zeroCm, 4) := by
  have h : (psEnd [2, 5, 0, 7, 0]).e = 4 := by rw [psEnd_nil (by decide +kernel)]; decide +kernel
  unfold pCmd
  rw [h]
  rfl
theorem pe2 : pCmd [0, 5, 0, 7, 0, 0] = (zeroCm, 5) := by
  have h : (psEnd [0, 5, 0, 7, 0, 0]).e = 5 := by rw [psEnd_nil (by decide +kernel)]; decide +kernel
  unfold pCmd
  rw [h]
  rfl
theorem mc1 : mayCm ⟨2, 5, [], 7, 0, []⟩ = true := by
  unfold mayCm
  simp only [decB_nil]
  decide +kernel
theorem cb1 : cmBytes ⟨2, 5, [], 7, 0, []⟩ = [2, 5, 0, 7, 0, 0] := by decide +kernel
theorem uts_nil (w : World) : UtsRd w (fun _ => False) (.slice none 0 0) [] := ⟨[], Rd.nil _ _ _, Els.nil _ _⟩
theorem wf1 : WfC ⟨2, 5, [], 7, 0, []⟩ := ⟨by decide, by decide, fun u hu => by cases hu⟩
theorem put_one {w : World} (hF : Forms w) : Calls Tryd.prog 5 #[.agg #[.int .i64 2, .int .u32 5, .string ⟨#[]⟩, .int .u64 7, .int .i64 0, .slice none 0 0]] w fun x w' => ∃ q d, x = .returned (.tuple #[.slice q 6 d, .int .i64 0]) ∧ CmdOwn w' w.heap.size (.slice q 6 d) [2, 5, 0, 7, 0, 0] ∧ Below w.heap.size w w' := by
  refine (cmd_PutCmd (S := fun _ => False) (p := none) (c := 0) (name := []) (us := []) hF (uts_nil w) (fun _ h => h.elim) (by decide) (by decide) wf1 mc1).mono ?_
  rintro x w1 ⟨q, d, h1, -, hb⟩
  obtain ⟨rfl, ho⟩ := h1 rfl
  rw [cb1] at ho ⊢
  exact ⟨q, d, rfl, ho, hb⟩
theorem parse_one {w : World} {S : Nat → Prop} {v : Value} {b : List UInt8} {e : Int} (hF : Forms w) (h : CmdRd w S v b) (hb : b.length ≤ 1000000) (he : pCmd b = (zeroCm, e)) : Calls Tryd.prog 6 #[v] w fun x w' => ∃ q d, x = .returned (.tuple #[.agg #[.int .i64 0, .int .u32 0, .string ⟨#[]⟩, .int .u64 0, .int .i64 0, .slice q 0 d], .int .i64 e]) ∧ Below w.heap.size w w' := by
  refine (cmd_ParseCmd hF h hb).mono ?_
  rw [he]
  rintro x w1 ⟨q, d, rfl, -, hb⟩
  exact ⟨q, d, rfl, hb⟩
set_option maxHeartbeats 6400000 in
set_option maxRecDepth 100000 in
theorem awake_true {w : World} (hF : Forms w) : Calls Tryd.prog 8 #[] w fun x w' => x = .returned (.bool true) ∧ Below w.heap.size w w' := by
  have HF := Lib.hid hF
  clear hF
  go_enter Tryd.func8, Tryd.ntmps8
  go_wp2_with fail
  refine (put_one HF.out).mono ?_
  rintro _ w1 ⟨q1, d1, rfl, ho, hb⟩
  have HO1 := Lib.hid ho
  have HB1 := Lib.hid hb
  clear ho hb
  go_wp2_with fail
  refine put_err.mono ?_
  rintro _ w2 ⟨q2, d2, rfl, ho, hb⟩
  have HO2 := Lib.hid ho
  have HO1 := Lib.hid (HO1.out.below hb)
  have HB2 := Lib.hid (HB1.out.trans (hb.mono HB1.out.size))
  clear ho hb
  go_wp2_with fail
  have hba := (Below.refl w2.heap.size w2).alloc (Nat.le_refl _) (.cells (bcells [2, 5, 0, 7, 0]).toArray 5)
  have HR := Lib.hid (show CmdRd _ _ _ _ from rd_new (w := w2) (bs := [2, 5, 0, 7, 0]) (n := 5) rfl (by unfold maxLen; omega))
  have HO3 := Lib.hid (And.intro (HO1.out.below hba) (HO2.out.below hba))
  have HB3 := Lib.hid (HB2.out.trans (hba.mono HB2.out.size))
  clear hba HO1 HO2
  refine (parse_one (HF.out.below HB3.out) HR.out (by decide) pe1).mono ?_
  rintro _ w3 ⟨q3, d3, rfl, hb⟩
  have HO4 := Lib.hid (And.intro (HO3.out.1.below hb) (HO3.out.2.below hb))
  have HB4 := Lib.hid (HB3.out.trans (hb.mono HB3.out.size))
  clear hb HR HO3
  go_wp2_with fail
  have hba := (Below.refl w3.heap.size w3).alloc (Nat.le_refl _) (.cells #[.int .i64 0, .int .u32 0, .string ⟨#[]⟩, .int .u64 0, .int .i64 0, .slice q3 0 d3] 26)
  have HO5 := Lib.hid (And.intro (HO4.out.1.below hba) (HO4.out.2.below hba))
  have HB5 := Lib.hid (HB4.out.trans (hba.mono HB4.out.size))
  rw [show w3.heap.size + 1 = (w3.alloc (.cells #[.int .i64 0, .int .u32 0, .string ⟨#[]⟩, .int .u64 0, .int .i64 0, .slice q3 0 d3] 26)).heap.size from (World.size_alloc _ _).symm]
  clear hba HO4
  generalize w3.alloc (.cells #[.int .i64 0, .int .u32 0, .string ⟨#[]⟩, .int .u64 0, .int .i64 0, .slice q3 0 d3] 26) = W4 at *
  have hba := (Below.refl W4.heap.size W4).alloc (Nat.le_refl _) (.cells (bcells [0, 5, 0, 7, 0, 0]).toArray 5)
  have HR6 := Lib.hid (show CmdRd _ _ _ _ from rd_new (w := W4) (bs := [0, 5, 0, 7, 0, 0]) (n := 6) rfl (by unfold maxLen; omega))
  have HO6 := Lib.hid (And.intro (HO5.out.1.below hba) (HO5.out.2.below hba))
  have HB6 := Lib.hid (HB5.out.trans (hba.mono HB5.out.size))
  clear hba HO5
  refine (parse_one (HF.out.below HB6.out) HR6.out (by decide) pe2).mono ?_
  rintro _ w5 ⟨q5, d5, rfl, hb⟩
  have HO7 := Lib.hid (And.intro (HO6.out.1.below hb) (HO6.out.2.below hb))
  have HB7 := Lib.hid (HB6.out.trans (hb.mono HB6.out.size))
  clear hb HR6 HO6
  go_wp2_with fail
  have hba := (Below.refl w5.heap.size w5).alloc (Nat.le_refl _) (.cells #[.int .i64 0, .int .u32 0, .string ⟨#[]⟩, .int .u64 0, .int .i64 0, .slice q5 0 d5] 26)
  have HO8 := Lib.hid (And.intro (HO7.out.1.below hba) (HO7.out.2.below hba))
  have HB8 := Lib.hid (HB7.out.trans (hba.mono HB7.out.size))
  rw [show w5.heap.size + 1 = (w5.alloc (.cells #[.int .i64 0, .int .u32 0, .string ⟨#[]⟩, .int .u64 0, .int .i64 0, .slice q5 0 d5] 26)).heap.size from (World.size_alloc _ _).symm]
  clear hba HO7
  generalize w5.alloc (.cells #[.int .i64 0, .int .u32 0, .string ⟨#[]⟩, .int .u64 0, .int .i64 0, .slice q5 0 d5] 26) = W6 at *
  have hba := (Below.refl W6.heap.size W6).alloc (Nat.le_refl _) (.cells (bcells [2, 5, 0, 7, 0, 0]).toArray 5)
  have HR9 := Lib.hid (show CmdRd _ _ _ _ from rd_new (w := W6) (bs := [2, 5, 0, 7, 0, 0]) (n := 6) rfl (by unfold maxLen; omega))
  have HO9 := Lib.hid (And.intro (HO8.out.1.below hba) (HO8.out.2.below hba))
  have HB9 := Lib.hid (HB8.out.trans (hba.mono HB8.out.size))
  clear hba HO8
  refine (bytes_Equal (CmdOwn.rd HO9.out.1) HR9.out).mono ?_
  rintro _ _ ⟨rfl, hww⟩
  subst hww
  go_wp2_with fail
  rw [show W6.heap.size + 1 = (W6.alloc (.cells (bcells [2, 5, 0, 7, 0, 0]).toArray 5)).heap.size from (World.size_alloc _ _).symm]
  clear HR9
  generalize W6.alloc (.cells (bcells [2, 5, 0, 7, 0, 0]).toArray 5) = W7 at *
  have hba := (Below.refl W7.heap.size W7).alloc (Nat.le_refl _) (.cells (bcells [6, 0, 0, 0, 0, 0, 0]).toArray 5)
  have HR10 := Lib.hid (show CmdRd _ _ _ _ from rd_new (w := W7) (bs := [6, 0, 0, 0, 0, 0, 0]) (n := 7) rfl (by unfold maxLen; omega))
  have HO10 := Lib.hid (HO9.out.2.below hba)
  have HB10 := Lib.hid (HB9.out.trans (hba.mono HB9.out.size))
  clear hba HO9
  refine (bytes_Equal (CmdOwn.rd HO10.out) HR10.out).mono ?_
  rintro _ _ ⟨rfl, hww⟩
  subst hww
  go_wp2_with fail
  go_ret
  exact ⟨rfl, HB10.out⟩
end Go.Proofs.YtciojggkcmdjiaaDoor
