/-
  Change: the contracts of what is refused, of Copy and Primary. (Printed by wip/gen_chmore.py.)
-/
import Derived.Test.YtgmekodfkhihiaaChBest
import Derived.Deep.WholeRow
import Derived.Laws.Rows
import Derived.Laws.Tables
namespace Go.Proofs.Ytgmekodfkhihiaa
open Go.RowKit Go.Maps
set_option linter.unusedSimpArgs false
set_option linter.unusedVariables false

section
variable {w : World} {S : Nat → Prop} {cb vb g : Nat} {n me v : Int} {t h : List Bool} {ps : List Pk}
theorem ch_Told_arg (H : ChAt w S cb vb g n me v t h ps) {k vn : Int} (hk : k < 0 ∨ n ≤ k ∨ k = me) :
    Calls Try.prog 15 #[.pointer (some ⟨cb, 0, none⟩), .int .u64 vn, .int .i64 k] w fun x w' => x = .returned (.tuple #[.bool false, .int .i64 1]) ∧ w = w' := by
  obtain ⟨a0, a1, a2, a3, hf, hz⟩ := H.cells
  have HH := Lib.hid H
  clear H hf
  by_cases h0 : k < 0
  · have d1 : decide (k < 0) = true := by simpa using h0
    go_enter Try.func15, Try.ntmps15
    go_wp2_with fail
    refine (ch_none HH.out).mono ?_
    rintro x _ ⟨rfl, rfl⟩
    go_wp2_with fail
    go_ret2
    exact ⟨rfl, rfl⟩
  · have d1 : decide (k < 0) = false := by simpa using h0
    by_cases h1 : n ≤ k
    · have d2 : decide (n ≤ k) = true := by simpa using h1
      go_enter Try.func15, Try.ntmps15
      go_wp2_with fail
      refine (ch_none HH.out).mono ?_
      rintro x _ ⟨rfl, rfl⟩
      go_wp2_with fail
      go_ret2
      exact ⟨rfl, rfl⟩
    · have d2 : decide (n ≤ k) = false := by simpa using h1
      have d3 : (k == me) = true := by simp; omega
      go_enter Try.func15, Try.ntmps15
      go_wp2_with fail
      refine (ch_none HH.out).mono ?_
      rintro x _ ⟨rfl, rfl⟩
      go_wp2_with fail
      go_ret2
      exact ⟨rfl, rfl⟩
theorem ch_Told_state (H : ChAt w S cb vb g n me v t h ps) (hk : NumOk n me) {k vn : Int} (h0 : 0 ≤ k) (h1 : k < n) (h2 : k ≠ me) (hv : vn ≠ v) :
    Calls Try.prog 15 #[.pointer (some ⟨cb, 0, none⟩), .int .u64 vn, .int .i64 k] w fun x w' => x = .returned (.tuple #[.bool false, .int .i64 39]) ∧ w = w' := by
  obtain ⟨a0, a1, a2, a3, hf, hz⟩ := H.cells
  obtain ⟨hn, m0, m1⟩ := hk
  have d1 : decide (k < 0) = false := by simpa using h0
  have d2 : decide (n ≤ k) = false := by simpa using h1
  have d3 : (k == me) = false := by simpa using h2
  have HH := Lib.hid H
  clear H hf
  go_enter Try.func15, Try.ntmps15
  go_wp2_with fail
  refine (ch_none HH.out).mono ?_
  rintro x _ ⟨rfl, rfl⟩
  go_wp2_with fail
  refine (votes_Most (by omega) (by omega)).mono ?_
  rintro x _ ⟨rfl, rfl⟩
  go_wp2_with fail
  refine (ch_vote_state (kd := 1) HH.out hv).mono ?_
  rintro x _ ⟨rfl, rfl⟩
  go_wp2_with fail
  go_ret2
  exact ⟨rfl, rfl⟩
theorem ch_Hand_state {T : Nat → Prop} {l b c : Int} {s : Value} {es : List Ent} {k vn : Int} (H : ChAt w S cb vb g n me v t h ps) (hk : NumOk n me) (h0 : 0 ≤ k) (h1 : k < n) (hs : EntsRd w T s es) (hm : mayB l b c es = true) (hb0 : 0 ≤ b) (hn64 : es.length ≤ 1152921504606846976) (hv : vn ≠ v) :
    Calls Try.prog 10 #[.pointer (some ⟨cb, 0, none⟩), .int .u64 vn, .int .i64 k, .agg #[.int .u64 l, .int .u64 b, .int .u64 c, s]] w fun x w' => x = .returned (.tuple #[.bool false, .int .i64 39]) ∧ Below w.heap.size w w' := by
  obtain ⟨cs, hr, -⟩ := id hs
  obtain ⟨p0, c0, rfl⟩ := Rd.slice hr
  obtain ⟨hn, m0, m1⟩ := hk
  have hX := (Below.refl w.heap.size w).alloc (Nat.le_refl _) (.cells #[.int .u64 l, .int .u64 b, .int .u64 c, .slice p0 es.length c0] 35)
  have kM := Blk.new w 35 #[.int .u64 l, .int .u64 b, .int .u64 c, .slice p0 es.length c0]
  have d1 : decide (k < 0) = false := by simpa using h0
  have d2 : decide (n ≤ k) = false := by simpa using h1
  have HH := Lib.hid (H.below hX)
  have HX := Lib.hid hX
  have Hs := Lib.hid (hs.below hX)
  have Hm := Lib.hid hm
  obtain ⟨a0, a1, a2, a3, -, hz⟩ := HH.out.cells
  obtain ⟨q0, q1, q2, q3, -⟩ := kM.c4
  have hz0 := kM.lt
  clear H hr hs hX kM hm
  go_enter Try.func10, Try.ntmps10
  go_wp2_with fail
  generalize w.alloc (.cells #[.int .u64 l, .int .u64 b, .int .u64 c, .slice p0 es.length c0] 35) = W at *
  refine (ch_none HH.out).mono ?_
  rintro x _ ⟨rfl, rfl⟩
  go_wp2_with fail
  refine (pack_May (a := l) (b := b) (c := c) Hs.out hn64 hb0).mono ?_
  rintro x w1 ⟨rfl, hb⟩
  rw [Hm.out]
  have HH1 := Lib.hid (HH.out.below hb)
  have HX1 := Lib.hid (HX.out.trans (hb.mono HX.out.size))
  clear hb HH Hs HX a0 a1 a2 a3 hz q0 q1 q2 q3 hz0
  obtain ⟨a0, a1, a2, a3, -, hz⟩ := HH1.out.cells
  go_wp2_with fail
  refine (votes_Most (by omega) (by omega)).mono ?_
  rintro x _ ⟨rfl, rfl⟩
  go_wp2_with fail
  refine (ch_vote_state (kd := 2) HH1.out hv).mono ?_
  rintro x _ ⟨rfl, rfl⟩
  go_wp2_with fail
  go_ret2
  exact ⟨rfl, HX1.out⟩
set_option maxHeartbeats 3200000 in
set_option maxRecDepth 100000 in
theorem ch_Best_few (H : ChAt w S cb vb g n me v t h ps) (hk : NumOk n me) (hen : (whoL h).length < n / 2 + 1) :
    Calls Try.prog 11 #[.pointer (some ⟨cb, 0, none⟩)] w fun x w' => x = .returned (.tuple #[.agg #[.int .u64 0, .int .u64 0, .int .u64 0, .slice none 0 0], .bool false]) ∧ Below w.heap.size w w' := by
  obtain ⟨hn, m0, m1⟩ := hk
  obtain ⟨wl, hwl⟩ : ∃ l, whoL h = l := ⟨_, rfl⟩
  have hw7 : wl.length ≤ 7 := by rw [← hwl]; exact Nat.le_trans (whoL_le h) (by rw [H.va.m.lh]; omega)
  rw [hwl] at hen
  have hX := (Below.refl w.heap.size w).alloc (Nat.le_refl _) (.cells #[.int .u64 0, .int .u64 0, .int .u64 0, .slice none 0 0] 35)
  have kR := Blk.new w 35 #[.int .u64 0, .int .u64 0, .int .u64 0, .slice none 0 0]
  have HH := Lib.hid (H.below hX)
  have HX := Lib.hid hX
  have KR := Lib.hid kR
  have Hwl := Lib.hid hwl
  obtain ⟨a0, a1, a2, a3, -, hz⟩ := HH.out.cells
  clear H hX kR hwl
  go_enter Try.func11, Try.ntmps11
  go_wp2_with fail
  generalize w.alloc (.cells #[.int .u64 0, .int .u64 0, .int .u64 0, .slice none 0 0] 35) = W at *
  refine (ch_none HH.out).mono ?_
  rintro x _ ⟨rfl, rfl⟩
  go_upto_region 3 with fail
  have hS0 : Holds [(cb, 2, .int .u64 v), (cb, 3, .pointer (some ⟨vb, 0, none⟩))] W.drew := ⟨a2, a3, trivial⟩
  have HHd := Lib.hid (HH.out.below (Below.refl _ W).drew)
  have HXd := Lib.hid HX.out.drew
  have KRd := Lib.hid KR.out.drew
  clear HH HX KR a0 a1 a2 a3 hz
  refine begin_D (T := Hold0) [] (by kernel_rfl) hS0 (fun _ => trivial) ?_
  refine take_S (v := ?v0a) 0 rfl (by kernel_rfl) (by kernel_rfl) (by kernel_rfl) (by kernel_rfl) (fun _ _ _ h => h) hS0 (fun _ => trivial) rfl (fun w' hq => ?h0a) ?_
  case h0a => go_simp; try with_reducible rfl
  try simp only [Act.put, List.setIfInBounds_toArray, List.set_cons_zero, List.set_cons_succ, List.getElem_toArray, List.getElem_cons_succ, List.getElem_cons_zero]
  refine take_S (v := ?v1a) 1 rfl (by kernel_rfl) (by kernel_rfl) (by kernel_rfl) (by kernel_rfl) (fun _ _ _ h => h) hS0 (fun _ => trivial) rfl (fun w' hq => ?h1a) ?_
  case h1a => go_simp; try with_reducible rfl
  try simp only [Act.put, List.setIfInBounds_toArray, List.set_cons_zero, List.set_cons_succ, List.getElem_toArray, List.getElem_cons_succ, List.getElem_cons_zero]
  refine take_S (v := ?v2a) 2 rfl (by kernel_rfl) (by kernel_rfl) (by kernel_rfl) (by kernel_rfl) (fun _ _ _ h => h) hS0 (fun _ => trivial) rfl (fun w' hq => ?h2a) ?_
  case h2a => go_simp; try with_reducible rfl
  try simp only [Act.put, List.setIfInBounds_toArray, List.set_cons_zero, List.set_cons_succ, List.getElem_toArray, List.getElem_cons_succ, List.getElem_cons_zero]
  refine take_S (v := ?v3a) 3 rfl (by kernel_rfl) (by kernel_rfl) (by kernel_rfl) (by kernel_rfl) (fun _ _ _ h => h) hS0 (fun _ => trivial) rfl (fun w' hq => ?h3a) ?_
  case h3a => obtain ⟨q0, q1, -⟩ := hq; change _ = some _ at q0; change _ = some _ at q1; go_simp; try with_reducible rfl
  try simp only [Act.put, List.setIfInBounds_toArray, List.set_cons_zero, List.set_cons_succ, List.getElem_toArray, List.getElem_cons_succ, List.getElem_cons_zero]
  refine take_S (v := ?v4a) 4 rfl (by kernel_rfl) (by kernel_rfl) (by kernel_rfl) (by kernel_rfl) (fun _ _ _ h => h) hS0 (fun _ => trivial) rfl (fun w' hq => ?h4a) ?_
  case h4a => go_simp; try with_reducible rfl
  try simp only [Act.put, List.setIfInBounds_toArray, List.set_cons_zero, List.set_cons_succ, List.getElem_toArray, List.getElem_cons_succ, List.getElem_cons_zero]
  refine take_S (v := ?v5a) 5 rfl (by kernel_rfl) (by kernel_rfl) (by kernel_rfl) (by kernel_rfl) (fun _ _ _ h => h) hS0 (fun _ => trivial) rfl (fun w' hq => ?h5a) ?_
  case h5a => go_simp; try with_reducible rfl
  try simp only [Act.put, List.setIfInBounds_toArray, List.set_cons_zero, List.set_cons_succ, List.getElem_toArray, List.getElem_cons_succ, List.getElem_cons_zero]
  refine take_S (v := ?v6a) 6 rfl (by kernel_rfl) (by kernel_rfl) (by kernel_rfl) (by kernel_rfl) (fun _ _ _ h => h) hS0 (fun _ => trivial) rfl (fun w' hq => ?h6a) ?_
  case h6a => go_simp; try with_reducible rfl
  try simp only [Act.put, List.setIfInBounds_toArray, List.set_cons_zero, List.set_cons_succ, List.getElem_toArray, List.getElem_cons_succ, List.getElem_cons_zero]
  refine take_S (v := ?v7a) 7 rfl (by kernel_rfl) (by kernel_rfl) (by kernel_rfl) (by kernel_rfl) (fun _ _ _ h => h) hS0 (fun _ => trivial) rfl (fun w' hq => ?h7a) ?_
  case h7a => obtain ⟨q0, q1, -⟩ := hq; change _ = some _ at q0; change _ = some _ at q1; go_simp; try with_reducible rfl
  try simp only [Act.put, List.setIfInBounds_toArray, List.set_cons_zero, List.set_cons_succ, List.getElem_toArray, List.getElem_cons_succ, List.getElem_cons_zero]
  refine take_S (v := ?v8a) 8 rfl (by kernel_rfl) (by kernel_rfl) (by kernel_rfl) (by kernel_rfl) (fun _ _ _ h => h) hS0 (fun _ => trivial) rfl (fun w' hq => ?h8a) ?_
  case h8a => go_simp; try with_reducible rfl
  try simp only [Act.put, List.setIfInBounds_toArray, List.set_cons_zero, List.set_cons_succ, List.getElem_toArray, List.getElem_cons_succ, List.getElem_cons_zero]
  refine one_D 9 rfl (by kernel_rfl) (fun KQ hK => ?_)
  go_simp
  refine (votes_Who (kd := 2) HHd.out.va (.inr rfl)).mono ?_
  rintro x w1 ⟨pw, dw, rfl, ho, hb⟩
  have hsel : sel 2 t h = h := rfl
  rw [hsel, Hwl.out] at ho ⊢
  have hS1 : Holds [(cb, 2, .int .u64 v), (cb, 3, .pointer (some ⟨vb, 0, none⟩))] w1 := Holds.below_ hS0 hb
  have HH1 := Lib.hid (HHd.out.below hb)
  have HX1 := Lib.hid (HXd.out.trans (hb.mono HXd.out.size))
  have KR1 := Lib.hid (KRd.out.below hb)
  refine hK.out _ _ hS1 (fun _ => trivial) ?_
  clear hK hS0 ho hb hsel HHd HXd KRd
  refine take_S (v := ?v10b) 10 rfl (by kernel_rfl) (by kernel_rfl) (by kernel_rfl) (by kernel_rfl) (fun _ _ _ h => h) hS1 (fun _ => trivial) rfl (fun w' hq => ?h10b) ?_
  case h10b => go_simp; try with_reducible rfl
  try simp only [Act.put, List.setIfInBounds_toArray, List.set_cons_zero, List.set_cons_succ, List.getElem_toArray, List.getElem_cons_succ, List.getElem_cons_zero]
  refine done_D (by kernel_rfl) ?_ _
  clear hS1
  obtain ⟨a0, a1, a2, a3, -, hz⟩ := HH1.out.cells
  have hdl : decide ((wl.length : Int) < n / 2 + 1) = true := by simp; omega
  obtain ⟨r0, r1, r2, r3, f0, f1, f2, f3, hz0⟩ := KR1.out.c4
  go_wp2_with fail
  refine (votes_Most (by omega) (by omega)).mono ?_
  rintro x _ ⟨rfl, rfl⟩
  go_wp2_with fail
  refine bodyPost_ret (v := .tuple #[.agg #[.int .u64 0, .int .u64 0, .int .u64 0, .slice none 0 0], .bool false]) (by simp [results, Try.results11, go_sem, r0, r1, r2, r3]) rfl ?_
  exact ⟨rfl, Below.sets4 HX1.out (Nat.le_refl _)⟩
theorem ch_Primary {w : World} {n v : Int} (h0 : 1 ≤ n) (h1 : n ≤ 4611686018427387904) (hv0 : 0 ≤ v) (hv1 : v < 18446744073709551616) :
    Calls Try.prog 25 #[.int .u64 v, .int .i64 n] w fun x w' => x = .returned (.int .i64 (v % n)) ∧ w = w' := by
  have d : decide (n < 1) = false := by simp; omega
  have hm0 := Int.emod_nonneg v (show n ≠ 0 by omega)
  have hm1 := Int.emod_lt_of_pos v (show 0 < n by omega)
  go_enter Try.func25, Try.ntmps25
  go_wp2_with fail
  go_ret
  exact ⟨rfl, rfl⟩
theorem ch_Primary_none {w : World} {n v : Int} (h0 : n < 1) : Calls Try.prog 25 #[.int .u64 v, .int .i64 n] w fun x w' => x = .returned (.int .i64 0) ∧ w = w' := by
  have d : decide (n < 1) = true := by simpa using h0
  go_enter Try.func25, Try.ntmps25
  go_wp2_with fail
  go_ret
  exact ⟨rfl, rfl⟩
theorem chc_votes (n me v : Int) (vb vb2 : Nat) (pcs : List Value) : (chc n me v vb pcs).setIfInBounds 3 (.pointer (some ⟨vb2, 0, none⟩)) = chc n me v vb2 pcs := by simp [chc]
set_option maxHeartbeats 6400000 in
set_option maxRecDepth 100000 in
theorem ch_Copy (H : ChAt w S cb vb g n me v t h ps) (hS : ∀ j, S j → j < w.heap.size) :
    Calls Try.prog 21 #[.pointer (some ⟨cb, 0, none⟩)] w fun x w' => ∃ cb2 vb2 g2, x = .returned (.pointer (some ⟨cb2, 0, none⟩)) ∧ ChAt w' S cb2 vb2 g2 n me v t h ps ∧ w.heap.size ≤ cb2 ∧ w.heap.size ≤ vb2 ∧ w.heap.size ≤ g2 ∧ Below w.heap.size w w' := by
  obtain ⟨⟨pcs, hB, hP⟩, hl7, hv, hnS⟩ := id H
  have h28 : pcs.length = 28 := by have := hP.1; rw [hl7] at this; omega
  have hone : ∀ u ∈ pcs, u.oneCell' = true := Els.one hP (by
    rintro c p ⟨s, rfl, hE⟩ u hu
    obtain ⟨_, hr, _⟩ := hE
    obtain ⟨a, d, rfl⟩ := Rd.slice hr
    simp at hu
    rcases hu with rfl | rfl | rfl | rfl <;> rfl) (by decide)
  have hsz : (chc n me v vb pcs).size = 32 := by simp [chc, h28]
  have hinfo : (Try.prog.info? 75).map (·.size) = some (chc n me v vb pcs).size := by rw [hsz]; kernel_rfl
  have hall : (chc n me v vb pcs).all (·.oneCell') = true := by
    rw [Array.all_eq_true_iff_forall_mem]
    intro u hu
    simp [chc] at hu
    rcases hu with rfl | rfl | rfl | rfl | hu
    · rfl
    · rfl
    · rfl
    · rfl
    · exact hone u hu
  have HH := Lib.hid H
  have c3 := (hB.cell 3).trans (show _ = some (Value.pointer (some ⟨vb, 0, none⟩)) from rfl)
  have hlt := hB.lt
  have hbN := (Below.refl w.heap.size w).alloc (Nat.le_refl _) (.cells (chc n me v vb pcs) 75)
  have kN := Blk.new w 75 (chc n me v vb pcs)
  have HN := Lib.hid hbN
  have KN := Lib.hid kN
  have HB := Lib.hid (show w.heap[cb]? = some (.cells (chc n me v vb pcs) 75 (0, 0)) from hB)
  have HP := Lib.hid hP
  have HS := Lib.hid hS
  have Hl7 := Lib.hid hl7
  have Hsz := Lib.hid hsz
  have Hinfo := Lib.hid hinfo
  have Hall := Lib.hid hall
  clear H hB hP hv hnS h28 hbN kN hS hl7 hone hsz hinfo hall
  go_enter Try.func21, Try.ntmps21
  go_wp2_with fail
  refine (ch_none HH.out).mono ?_
  rintro x _ ⟨rfl, rfl⟩
  go_wp2_with (first
    | (refine wpList_load_row rfl 75 (.tmp 7) rfl cb rfl 75 (chc n me v vb pcs) (0, 0) _ HB.out Try.underlying75 rfl Hinfo.out ?_)
    | (refine wpList_store_row rfl 75 (.tmp 3) (.tmp 8) rfl w.heap.size (chc n me v vb pcs) rfl rfl 75 _ (heap_alloc_new w _) Hinfo.out (by rw [Hsz.out]; rfl) Hall.out ?_; rw [World.setRow_alloc_new])
    | fail)
  have hzN : w.heap.size < (w.alloc (.cells (chc n me v vb pcs) 75)).heap.size := KN.out.lt
  generalize w.alloc (.cells (chc n me v vb pcs) 75) = W at *
  refine (votes_Copy (HH.out.va.below HN.out)).mono ?_
  rintro x w1 ⟨vb2, g2, rfl, hV, h1, h2, hb⟩
  have kN1 := KN.out.below hb
  have q3 := (kN1.cell 3).trans (show _ = some (Value.pointer (some ⟨vb, 0, none⟩)) from rfl)
  have qf := kN1.frozen 3
  have qz := kN1.lt
  have KN1 := Lib.hid kN1
  have HV := Lib.hid hV
  have HX1 := Lib.hid (HN.out.trans (hb.mono HN.out.size))
  have H12 := Lib.hid (And.intro h1 h2)
  clear c3 kN1 hV hb h1 h2
  go_wp2_with fail
  go_ret
  have hE : Ext (fun j => j = w.heap.size) w1 (w1.setCell ⟨w.heap.size, 3, none⟩ (.pointer (some ⟨vb2, 0, none⟩))) := (Ext.refl (fun j => j = w.heap.size) w1).setCell (p := ⟨w.heap.size, 3, none⟩) (.inl rfl) _
  have h12 := H12.out
  refine ⟨w.heap.size, vb2, g2, rfl, ⟨⟨pcs, ?_, ?_⟩, Hl7.out, HV.out.ext hE (by omega) (by omega), ?_⟩, Nat.le_refl _, by omega, by omega, Ext.from HX1.out hE (fun j hj => by omega)⟩
  · rw [← chc_votes n me v vb vb2 pcs]
    exact KN1.out.set_ 3 _
  · exact HP.out.keep (fun j hj hSj => (hE.block j (Nat.lt_of_lt_of_le hj HX1.out.size) (by omega)).trans (HX1.out.block j hj)) (fun _ h _ => h)
  · exact ⟨fun h => by have := HS.out _ h; omega, fun h => by have := HS.out _ h; omega, fun h => by have := HS.out _ h; omega⟩
end
end Go.Proofs.Ytgmekodfkhihiaa
