/-
  Change: the contracts of vote and Told. (Printed by wip/gen_vote.py.)
-/
import Derived.Test.YtgmekodfkhihiaaCh
namespace Go.Proofs.Ytgmekodfkhihiaa
open Go.RowKit Go.Maps
set_option linter.unusedSimpArgs false
set_option linter.unusedVariables false

section
variable {w : World} {S : Nat → Prop} {cb vb g : Nat} {n me v : Int} {t h : List Bool} {ps : List Pk}
theorem ChAt.voted {w' : World} {t' h' : List Bool} (H : ChAt w S cb vb g n me v t h ps) (hv : VAt w' vb g n v t' h') (hE : Ext (fun j => j = g) w w') : ChAt w' S cb vb g n me v t' h' ps := by
  have hne := H.ne
  obtain ⟨⟨pcs, hB, hP⟩, hl, -, hS⟩ := H
  exact ⟨⟨pcs, hB.ext hE hne.2.1, hP.keep (fun k hk hSk => hE.block k hk (fun e => hS.2.2 (e ▸ hSk))) (fun _ h _ => h)⟩, hl, hv, hS⟩
/-- Just so many now, and fewer ahead. -/
def justB (l l' : List Bool) (many : Int) : Bool := decide ((whoL l').length = many ∧ (whoL l).length < many)

set_option maxHeartbeats 6400000 in
set_option maxRecDepth 100000 in
theorem ch_vote (H : ChAt w S cb vb g n me v t h ps) {kd many : Int} (hkd : kd = 1 ∨ kd = 2) {k : Nat} (hk : (k : Int) < n) (hn : n ≤ 7) {l l' : List Bool} (hl : sel kd t h = l) (hl' : l.set k true = l') :
    Calls Try.prog 30 #[.pointer (some ⟨cb, 0, none⟩), .int .i64 kd, .int .u64 v, .int .i64 (k : Int), .int .i64 many] w fun x w' => x = .returned (.tuple #[.bool (justB l l' many), .int .i64 0]) ∧
      ChAt w' S cb vb g n me v (updT kd l' t) (updH kd l' h) ps ∧ Ext (fun j => j = g) w w' := by
  subst hl
  obtain ⟨now, hnow⟩ : ∃ x, (whoL l').length = x := ⟨_, rfl⟩
  obtain ⟨ahead, hah⟩ : ∃ x, (whoL (sel kd t h)).length = x := ⟨_, rfl⟩
  unfold justB
  rw [hnow, hah]
  have Hnow := Lib.hid hnow
  have Hah := Lib.hid hah
  clear hnow hah
  obtain ⟨a0, a1, a2, a3, hf, hz⟩ := H.cells
  have hne := H.ne
  have hlt := H.lt
  have hb1 := (Below.refl w.heap.size w).alloc (Nat.le_refl _) (.cells #[.int .i64 kd, .int .u64 v, .int .u64 0] 84)
  have hM := Blk.new w 84 #[.int .i64 kd, .int .u64 v, .int .u64 0]
  have HH := Lib.hid (H.below hb1)
  have HB := Lib.hid hb1
  have HM := Lib.hid hM
  have Hne := Lib.hid hne
  have Hlt := Lib.hid hlt
  have Hl' := Lib.hid hl'
  clear H hf hne hlt hb1 hM hl'
  go_enter Try.func30, Try.ntmps30
  go_upto_region 4 with fail
  generalize w.alloc (.cells #[.int .i64 kd, .int .u64 v, .int .u64 0] 84) = W at *
  clear a0 a1 a2 a3
  have hS : Holds [(cb, 3, .pointer (some ⟨vb, 0, none⟩)), (w.heap.size, 0, .int .i64 kd), (w.heap.size, 1, .int .u64 v), (w.heap.size, 2, .int .u64 0)] W.drew := ⟨HH.out.cells.2.2.2.1, HM.out.cell 0, HM.out.cell 1, HM.out.cell 2, trivial⟩
  have HHd := Lib.hid (HH.out.below (Below.refl _ W).drew)
  refine begin_D (T := Hold0) [] (by kernel_rfl) hS (fun _ => trivial) ?_
  refine take_S (v := ?v0a) 0 rfl (by kernel_rfl) (by kernel_rfl) (by kernel_rfl) (by kernel_rfl) (fun _ _ _ h => h) hS (fun _ => trivial) rfl (fun w' hq => ?h0a) ?_
  case h0a => obtain ⟨hq0, hq1, hq2, hq3, -⟩ := hq; change _ = some _ at hq0; change _ = some _ at hq1; change _ = some _ at hq2; change _ = some _ at hq3; go_simp; try with_reducible rfl
  try simp only [Act.put, List.setIfInBounds_toArray, List.set_cons_zero, List.set_cons_succ, List.getElem_toArray, List.getElem_cons_succ, List.getElem_cons_zero]
  refine take_S (v := ?v1a) 1 rfl (by kernel_rfl) (by kernel_rfl) (by kernel_rfl) (by kernel_rfl) (fun _ _ _ h => h) hS (fun _ => trivial) rfl (fun w' hq => ?h1a) ?_
  case h1a => obtain ⟨hq0, hq1, hq2, hq3, -⟩ := hq; change _ = some _ at hq0; change _ = some _ at hq1; change _ = some _ at hq2; change _ = some _ at hq3; go_simp; try with_reducible rfl
  try simp only [Act.put, List.setIfInBounds_toArray, List.set_cons_zero, List.set_cons_succ, List.getElem_toArray, List.getElem_cons_succ, List.getElem_cons_zero]
  refine take_S (v := ?v2a) 2 rfl (by kernel_rfl) (by kernel_rfl) (by kernel_rfl) (by kernel_rfl) (fun _ _ _ h => h) hS (fun _ => trivial) rfl (fun w' hq => ?h2a) ?_
  case h2a => obtain ⟨hq0, hq1, hq2, hq3, -⟩ := hq; change _ = some _ at hq0; change _ = some _ at hq1; change _ = some _ at hq2; change _ = some _ at hq3; go_simp; try with_reducible rfl
  try simp only [Act.put, List.setIfInBounds_toArray, List.set_cons_zero, List.set_cons_succ, List.getElem_toArray, List.getElem_cons_succ, List.getElem_cons_zero]
  refine take_S (v := ?v3a) 3 rfl (by kernel_rfl) (by kernel_rfl) (by kernel_rfl) (by kernel_rfl) (fun _ _ _ h => h) hS (fun _ => trivial) rfl (fun w' hq => ?h3a) ?_
  case h3a => obtain ⟨hq0, hq1, hq2, hq3, -⟩ := hq; change _ = some _ at hq0; change _ = some _ at hq1; change _ = some _ at hq2; change _ = some _ at hq3; go_simp; try with_reducible rfl
  try simp only [Act.put, List.setIfInBounds_toArray, List.set_cons_zero, List.set_cons_succ, List.getElem_toArray, List.getElem_cons_succ, List.getElem_cons_zero]
  refine take_S (v := ?v4a) 4 rfl (by kernel_rfl) (by kernel_rfl) (by kernel_rfl) (by kernel_rfl) (fun _ _ _ h => h) hS (fun _ => trivial) rfl (fun w' hq => ?h4a) ?_
  case h4a => obtain ⟨hq0, hq1, hq2, hq3, -⟩ := hq; change _ = some _ at hq0; change _ = some _ at hq1; change _ = some _ at hq2; change _ = some _ at hq3; go_simp; try with_reducible rfl
  try simp only [Act.put, List.setIfInBounds_toArray, List.set_cons_zero, List.set_cons_succ, List.getElem_toArray, List.getElem_cons_succ, List.getElem_cons_zero]
  refine one_D 5 rfl (by kernel_rfl) (fun KQ hK => ?_)
  go_simp
  refine (votes_Count (kd := kd) HHd.out.va hkd).mono ?_
  rintro x w5 ⟨rfl, hb⟩
  rw [Hah.out]
  have hS5 := Holds.below_ hS hb
  have HH5 := Lib.hid (HHd.out.below hb)
  have HX5 := Lib.hid (show Below w.heap.size w w5 from HB.out.trans (((Below.refl _ W).drew.trans hb).mono HB.out.size))
  refine hK.out _ _ hS5 (fun _ => trivial) ?_
  clear hK hS hb HHd HH HB
  refine take_S (v := ?v6b) 6 rfl (by kernel_rfl) (by kernel_rfl) (by kernel_rfl) (by kernel_rfl) (fun _ _ _ h => h) hS5 (fun _ => trivial) rfl (fun w' hq => ?h6b) ?_
  case h6b => obtain ⟨hq0, hq1, hq2, hq3, -⟩ := hq; change _ = some _ at hq0; change _ = some _ at hq1; change _ = some _ at hq2; change _ = some _ at hq3; go_simp; try with_reducible rfl
  try simp only [Act.put, List.setIfInBounds_toArray, List.set_cons_zero, List.set_cons_succ, List.getElem_toArray, List.getElem_cons_succ, List.getElem_cons_zero]
  refine done_D (by kernel_rfl) ?_ _
  have HS5 := Lib.hid hS5
  clear hS5
  go_upto_region 5 with fail
  have hS6 : Holds [(cb, 3, .pointer (some ⟨vb, 0, none⟩)), (w.heap.size, 0, .int .i64 kd), (w.heap.size, 1, .int .u64 v), (w.heap.size, 2, .int .u64 0)] w5.drew := Holds.below_ HS5.out (Below.refl _ w5).drew
  have HH6 := Lib.hid (HH5.out.below (Below.refl _ w5).drew)
  clear HH5
  refine begin_D (T := Hold0) [] (by kernel_rfl) hS6 (fun _ => trivial) ?_
  refine take_S (v := ?v0c) 0 rfl (by kernel_rfl) (by kernel_rfl) (by kernel_rfl) (by kernel_rfl) (fun _ _ _ h => h) hS6 (fun _ => trivial) rfl (fun w' hq => ?h0c) ?_
  case h0c => obtain ⟨hq0, hq1, hq2, hq3, -⟩ := hq; change _ = some _ at hq0; change _ = some _ at hq1; change _ = some _ at hq2; change _ = some _ at hq3; go_simp; try with_reducible rfl
  try simp only [Act.put, List.setIfInBounds_toArray, List.set_cons_zero, List.set_cons_succ, List.getElem_toArray, List.getElem_cons_succ, List.getElem_cons_zero]
  refine take_S (v := ?v1c) 1 rfl (by kernel_rfl) (by kernel_rfl) (by kernel_rfl) (by kernel_rfl) (fun _ _ _ h => h) hS6 (fun _ => trivial) rfl (fun w' hq => ?h1c) ?_
  case h1c => obtain ⟨hq0, hq1, hq2, hq3, -⟩ := hq; change _ = some _ at hq0; change _ = some _ at hq1; change _ = some _ at hq2; change _ = some _ at hq3; go_simp; try with_reducible rfl
  try simp only [Act.put, List.setIfInBounds_toArray, List.set_cons_zero, List.set_cons_succ, List.getElem_toArray, List.getElem_cons_succ, List.getElem_cons_zero]
  refine take_S (v := ?v2c) 2 rfl (by kernel_rfl) (by kernel_rfl) (by kernel_rfl) (by kernel_rfl) (fun _ _ _ h => h) hS6 (fun _ => trivial) rfl (fun w' hq => ?h2c) ?_
  case h2c => obtain ⟨hq0, hq1, hq2, hq3, -⟩ := hq; change _ = some _ at hq0; change _ = some _ at hq1; change _ = some _ at hq2; change _ = some _ at hq3; go_simp; try with_reducible rfl
  try simp only [Act.put, List.setIfInBounds_toArray, List.set_cons_zero, List.set_cons_succ, List.getElem_toArray, List.getElem_cons_succ, List.getElem_cons_zero]
  refine take_S (v := ?v3c) 3 rfl (by kernel_rfl) (by kernel_rfl) (by kernel_rfl) (by kernel_rfl) (fun _ _ _ h => h) hS6 (fun _ => trivial) rfl (fun w' hq => ?h3c) ?_
  case h3c => obtain ⟨hq0, hq1, hq2, hq3, -⟩ := hq; change _ = some _ at hq0; change _ = some _ at hq1; change _ = some _ at hq2; change _ = some _ at hq3; go_simp; try with_reducible rfl
  try simp only [Act.put, List.setIfInBounds_toArray, List.set_cons_zero, List.set_cons_succ, List.getElem_toArray, List.getElem_cons_succ, List.getElem_cons_zero]
  refine take_S (v := ?v4c) 4 rfl (by kernel_rfl) (by kernel_rfl) (by kernel_rfl) (by kernel_rfl) (fun _ _ _ h => h) hS6 (fun _ => trivial) rfl (fun w' hq => ?h4c) ?_
  case h4c => obtain ⟨hq0, hq1, hq2, hq3, -⟩ := hq; change _ = some _ at hq0; change _ = some _ at hq1; change _ = some _ at hq2; change _ = some _ at hq3; go_simp; try with_reducible rfl
  try simp only [Act.put, List.setIfInBounds_toArray, List.set_cons_zero, List.set_cons_succ, List.getElem_toArray, List.getElem_cons_succ, List.getElem_cons_zero]
  refine take_S (v := ?v5c) 5 rfl (by kernel_rfl) (by kernel_rfl) (by kernel_rfl) (by kernel_rfl) (fun _ _ _ h => h) hS6 (fun _ => trivial) rfl (fun w' hq => ?h5c) ?_
  case h5c => obtain ⟨hq0, hq1, hq2, hq3, -⟩ := hq; change _ = some _ at hq0; change _ = some _ at hq1; change _ = some _ at hq2; change _ = some _ at hq3; go_simp; try with_reducible rfl
  try simp only [Act.put, List.setIfInBounds_toArray, List.set_cons_zero, List.set_cons_succ, List.getElem_toArray, List.getElem_cons_succ, List.getElem_cons_zero]
  refine one_D 6 rfl (by kernel_rfl) (fun KQ hK => ?_)
  go_simp
  refine (votes_Add (kd := kd) HH6.out.va hkd hk hn Hl'.out).mono ?_
  rintro x w7 ⟨rfl, hV, hE⟩
  rw [Hnow.out]
  have hS7 := hS6.ext hE (by intro x hx; simp at hx; have h1 := Hne.out; have h2 := Hlt.out; rcases hx with rfl | rfl | rfl | rfl <;> (show ¬ _ = g; omega))
  have HF := Lib.hid (HH6.out.voted hV hE)
  have HX7 := Lib.hid ((Ext.of_below (fun j => j = g) HX5.out.drew).trans hE)
  refine hK.out _ _ hS7 (fun _ => trivial) ?_
  clear hK hS6 hE hV HH6 HX5
  refine take_S (v := ?v7d) 7 rfl (by kernel_rfl) (by kernel_rfl) (by kernel_rfl) (by kernel_rfl) (fun _ _ _ h => h) hS7 (fun _ => trivial) rfl (fun w' hq => ?h7d) ?_
  case h7d => obtain ⟨hq0, hq1, hq2, hq3, -⟩ := hq; change _ = some _ at hq0; change _ = some _ at hq1; change _ = some _ at hq2; change _ = some _ at hq3; go_simp; try with_reducible rfl
  try simp only [Act.put, List.setIfInBounds_toArray, List.set_cons_zero, List.set_cons_succ, List.getElem_toArray, List.getElem_cons_succ, List.getElem_cons_zero]
  refine take_S (v := ?v8d) 8 rfl (by kernel_rfl) (by kernel_rfl) (by kernel_rfl) (by kernel_rfl) (fun _ _ _ h => h) hS7 (fun _ => trivial) rfl (fun w' hq => ?h8d) ?_
  case h8d => obtain ⟨hq0, hq1, hq2, hq3, -⟩ := hq; change _ = some _ at hq0; change _ = some _ at hq1; change _ = some _ at hq2; change _ = some _ at hq3; go_simp; try with_reducible rfl
  try simp only [Act.put, List.setIfInBounds_toArray, List.set_cons_zero, List.set_cons_succ, List.getElem_toArray, List.getElem_cons_succ, List.getElem_cons_zero]
  refine take_S (v := ?v9d) 9 rfl (by kernel_rfl) (by kernel_rfl) (by kernel_rfl) (by kernel_rfl) (fun _ _ _ h => h) hS7 (fun _ => trivial) rfl (fun w' hq => ?h9d) ?_
  case h9d => obtain ⟨hq0, hq1, hq2, hq3, -⟩ := hq; change _ = some _ at hq0; change _ = some _ at hq1; change _ = some _ at hq2; change _ = some _ at hq3; go_simp; try with_reducible rfl
  try simp only [Act.put, List.setIfInBounds_toArray, List.set_cons_zero, List.set_cons_succ, List.getElem_toArray, List.getElem_cons_succ, List.getElem_cons_zero]
  refine take_S (v := ?v10d) 10 rfl (by kernel_rfl) (by kernel_rfl) (by kernel_rfl) (by kernel_rfl) (fun _ _ _ h => h) hS7 (fun _ => trivial) rfl (fun w' hq => ?h10d) ?_
  case h10d => obtain ⟨hq0, hq1, hq2, hq3, -⟩ := hq; change _ = some _ at hq0; change _ = some _ at hq1; change _ = some _ at hq2; change _ = some _ at hq3; go_simp; try with_reducible rfl
  try simp only [Act.put, List.setIfInBounds_toArray, List.set_cons_zero, List.set_cons_succ, List.getElem_toArray, List.getElem_cons_succ, List.getElem_cons_zero]
  refine take_S (v := ?v11d) 11 rfl (by kernel_rfl) (by kernel_rfl) (by kernel_rfl) (by kernel_rfl) (fun _ _ _ h => h) hS7 (fun _ => trivial) rfl (fun w' hq => ?h11d) ?_
  case h11d => obtain ⟨hq0, hq1, hq2, hq3, -⟩ := hq; change _ = some _ at hq0; change _ = some _ at hq1; change _ = some _ at hq2; change _ = some _ at hq3; go_simp; try with_reducible rfl
  try simp only [Act.put, List.setIfInBounds_toArray, List.set_cons_zero, List.set_cons_succ, List.getElem_toArray, List.getElem_cons_succ, List.getElem_cons_zero]
  refine done_D (by kernel_rfl) ?_ _
  clear hS7
  by_cases h1 : (now : Int) = many
  · have e1 : ((now : Int) == many) = true := by simpa using h1
    by_cases h2 : (ahead : Int) < many
    · have e2 : decide ((ahead : Int) < many) = true := by simpa using h2
      go_wp2_with fail
      go_ret2
      exact ⟨by first | rfl | (rw [decide_eq_true (by omega)]; rfl), HF.out, HX7.out⟩
    · have e2 : decide ((ahead : Int) < many) = false := by simpa using h2
      go_wp2_with fail
      go_ret2
      exact ⟨by first | rfl | (rw [decide_eq_false (by omega)]; rfl), HF.out, HX7.out⟩
  · have e1 : ((now : Int) == many) = false := by simpa using h1
    go_wp2_with fail
    go_ret2
    exact ⟨by first | rfl | (rw [decide_eq_false (by omega)]; rfl), HF.out, HX7.out⟩
theorem ch_vote_state (H : ChAt w S cb vb g n me v t h ps) {kd many vn : Int} {k : Int} (hv : vn ≠ v) :
    Calls Try.prog 30 #[.pointer (some ⟨cb, 0, none⟩), .int .i64 kd, .int .u64 vn, .int .i64 k, .int .i64 many] w fun x w' => x = .returned (.tuple #[.bool false, .int .i64 39]) ∧ w = w' := by
  obtain ⟨a0, a1, a2, a3, hf, hz⟩ := H.cells
  have hd : (vn != v) = true := by simpa using hv
  clear H hf
  go_enter Try.func30, Try.ntmps30
  go_wp2_with fail
  go_ret2
  exact ⟨rfl, rfl⟩

/-- What Told answers. -/
structure ToldR (w w' : World) (S : Nat → Prop) (cb vb g : Nat) (n me v : Int) (t h : List Bool) (ps : List Pk) (x : Ending) (r : Bool) (e : Int) (t' : List Bool) : Prop where
  x : x = .returned (.tuple #[.bool r, .int .i64 e])
  c : ChAt w' S cb vb g n me v t' h ps
  e : Ext (fun j => j = g) w w'
set_option maxHeartbeats 3200000 in
set_option maxRecDepth 100000 in
theorem ch_Told (H : ChAt w S cb vb g n me v t h ps) (hk : NumOk n me) {k : Nat} (hkn : (k : Int) < n) (hkm : (k : Int) ≠ me) {t' : List Bool} (ht : t.set k true = t') :
    Calls Try.prog 15 #[.pointer (some ⟨cb, 0, none⟩), .int .u64 v, .int .i64 (k : Int)] w fun x w' => ToldR w w' S cb vb g n me v t h ps x (justB t t' (n / 2)) 0 t' := by
  obtain ⟨a0, a1, a2, a3, hf, hz⟩ := H.cells
  obtain ⟨hn, m0, m1⟩ := hk
  have d1 : decide ((k : Int) < 0) = false := by simp
  have d2 : decide (n ≤ (k : Int)) = false := by simp; omega
  have d3 : ((k : Int) == me) = false := by simpa using hkm
  have HH := Lib.hid H
  have Ht := Lib.hid ht
  clear H hf ht
  go_enter Try.func15, Try.ntmps15
  go_wp2_with fail
  refine (ch_none HH.out).mono ?_
  rintro x _ ⟨rfl, rfl⟩
  go_wp2_with fail
  refine (votes_Most (by omega) (by omega)).mono ?_
  rintro x _ ⟨rfl, rfl⟩
  have hw : wrap64 (n / 2 + 1 - 1) = n / 2 := by unfold wrap64; omega
  have hw2 : n / 2 + 1 - 1 = n / 2 := by omega
  go_wp2_with fail
  refine (ch_vote (kd := 1) (many := n / 2) HH.out (.inl rfl) hkn (by omega) rfl Ht.out).mono ?_
  rintro x w1 ⟨rfl, hC, hE⟩
  have HC := Lib.hid hC
  have HE := Lib.hid hE
  clear hC hE
  go_wp2_with fail
  go_ret2
  exact ⟨rfl, HC.out, HE.out⟩
end
end Go.Proofs.Ytgmekodfkhihiaa
