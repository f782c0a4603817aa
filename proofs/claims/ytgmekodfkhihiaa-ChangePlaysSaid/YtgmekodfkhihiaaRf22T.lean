/-
  ChangePlays: the document's change: the contract of Told. (Printed by wip/gen_rft22.py.)
-/
import Derived.Test.YtgmekodfkhihiaaRf22B
namespace Go.Proofs.Ytgmekodfkhihiaa
open Go.RowKit Go.Maps
set_option linter.unusedSimpArgs false
set_option linter.unusedVariables false
section
variable {w w' : World} {R R' A : Nat → Prop} {b : Nat} {n me v : Int} {tell : List Nat} {l : List (Nat × Pk)} {tp lp : Option Addr} {tc lc : Nat}
theorem rf_Told_arg {k vn : Int} (H : RIn w R A b n me v tell l tp tc lp lc) (hk : k < 0 ∨ n ≤ k ∨ k = me) :
    Calls Try.prog 19 #[.pointer (some ⟨b, 0, none⟩), .int .u64 vn, .int .i64 k] w fun x w' => x = .returned (.tuple #[.bool false, .int .i64 1]) ∧ w = w' := by
  obtain ⟨a0, a1, a2, a3, a4, ff, hz⟩ := H.kb.c5
  clear H ff
  by_cases h1 : k < 0
  · have d1 : decide (k < 0) = true := by simpa using h1
    clear hk
    go_enter Try.func19, Try.ntmps19
    go_wp2_with fail
    go_ret2
    exact ⟨rfl, rfl⟩
  · have d1 : decide (k < 0) = false := by simpa using h1
    by_cases h2 : n ≤ k
    · have d2 : decide (n ≤ k) = true := by simpa using h2
      clear hk
      go_enter Try.func19, Try.ntmps19
      go_wp2_with fail
      go_ret2
      exact ⟨rfl, rfl⟩
    · have d2 : decide (n ≤ k) = false := by simpa using h2
      obtain rfl : k = me := by omega
      clear hk
      go_enter Try.func19, Try.ntmps19
      go_wp2_with fail
      go_ret2
      exact ⟨rfl, rfl⟩
theorem rf_Told_state {k vn : Int} (H : RIn w R A b n me v tell l tp tc lp lc) (h0 : 0 ≤ k) (h1 : k < n) (h2 : k ≠ me) (hv : vn ≠ v) :
    Calls Try.prog 19 #[.pointer (some ⟨b, 0, none⟩), .int .u64 vn, .int .i64 k] w fun x w' => x = .returned (.tuple #[.bool false, .int .i64 39]) ∧ w = w' := by
  obtain ⟨a0, a1, a2, a3, a4, ff, hz⟩ := H.kb.c5
  clear H ff
  have d1 : decide (k < 0) = false := by simp; omega
  have d2 : decide (n ≤ k) = false := by simp; omega
  have d3 : (k == me) = false := by simpa using h2
  have d4 : (vn != v) = true := by simpa using hv
  clear h2 hv
  go_enter Try.func19, Try.ntmps19
  go_wp2_with fail
  go_ret2
  exact ⟨rfl, rfl⟩
theorem more_all {S : Nat → Prop} (hS : ∀ j, S j → j < w.heap.size) {j : Nat} (h : S j) : More S w w' j := .inl ⟨h, hS j h⟩
theorem RIn.told {w1 w3 : World} {p3 : Option Addr} {c3 k : Nat} (H : RIn w R A b n me v tell l tp tc lp lc) (hb1 : Below w.heap.size w w1)
    (hown3 : w3.ownsRow 0 3 1 (.slice p3 (tell.length + 1) c3) (tell.length + 1) (icells tell ++ [.int .i64 (k : Int)])) (hgrow : w1.grownBy w3 (Value.slice tp tell.length tc).ownBlock)
    (hwh : (Value.slice p3 (tell.length + 1) c3).ownBlock = (Value.slice tp tell.length tc).ownBlock ∨ (Value.slice p3 (tell.length + 1) c3).ownBlock = some w1.heap.size) (hA : ∀ j, A j → ¬ R j) :
    RIn (w3.setCell ⟨b, 3, none⟩ (.slice p3 (tell.length + 1) c3)) (More R w (w3.setCell ⟨b, 3, none⟩ (.slice p3 (tell.length + 1) c3))) A b n me v (tell ++ [k]) l p3 c3 lp lc ∧ Ext R w (w3.setCell ⟨b, 3, none⟩ (.slice p3 (tell.length + 1) c3)) ∧
      Blk w3 b 60 #[.int .i64 n, .int .i64 me, .int .u64 v, .slice tp tell.length tc, .slice lp l.length lc] := by
  obtain ⟨cs, ho, hE⟩ := H.hl
  have ht1 := own_below H.ht hb1
  have hk3 := (H.kb.below hb1).grown hgrow (own_ne ht1 (H.kb.below hb1) (by decide)).symm
  have hE3 : Ext R w w3 := ⟨hgrow.os.trans hb1.os, hgrow.tape.trans hb1.tape, hgrow.output.trans hb1.output, Nat.le_trans hb1.size hgrow.size, fun j hj hn => (hgrow.block j (Nat.lt_of_lt_of_le hj hb1.size) (fun e => hn (H.rt j e.symm))).trans (hb1.block j hj)⟩
  have hE4 : Ext R w (w3.setCell ⟨b, 3, none⟩ (.slice p3 (tell.length + 1) c3)) := hE3.setCell (p := ⟨b, 3, none⟩) (.inl H.rb) _
  have hz : (w3.setCell ⟨b, 3, none⟩ (.slice p3 (tell.length + 1) c3)).heap.size = w3.heap.size := by simp [World.setCell]
  have hll : (tell ++ [k]).length = tell.length + 1 := by simp
  refine ⟨⟨?_, ?_, ⟨cs, own_set (own_grown (own_below ho hb1) ht1 (by decide) hgrow) hk3 (by decide) 3 _, Hds.keep hE (fun j hj hAj => hE4.block j hj (hA j hAj))⟩, ?_, fun j e => more_all H.lt (H.rl j e), more_all H.lt H.rb, ?_⟩, hE4, hk3⟩
  · rw [hll]; simpa using hk3.set_ 3 (.slice p3 (tell.length + 1) c3)
  · rw [hll]
    have := own_set hown3 hk3 (by decide) 3 (.slice p3 (tell.length + 1) c3)
    simpa [icells] using this
  · intro j e
    rw [hll] at e
    have hlt := (hown3.lt j e).2
    rcases hwh with h | h
    · exact more_all H.lt (H.rt j (h ▸ e))
    · rw [h] at e
      injection e with e
      subst e
      exact .inr ⟨hb1.size, by rw [hz]; exact hlt⟩
  · intro j hj
    rcases hj with ⟨h, h'⟩ | ⟨-, h⟩
    · exact Nat.lt_of_lt_of_le h' hE4.size
    · exact h
/-- The row of nodes that told, cell by cell. -/
theorem tell_cells (H : RIn w R A b n me v tell l tp tc lp lc) (h0 : 0 < tell.length) : ∃ g, tp = some ⟨g, 0, none⟩ ∧ tell.length ≤ tc ∧ ∀ k (hk : k < tell.length), w.cell? ⟨g, k, none⟩ = some (.int .i64 (tell[k] : Int)) := by
  obtain ⟨g, c, he, -, -, hc, hcell⟩ := row_int H.ht rfl h0
  injection he with h1 h2 h3
  subst h1; subst h3
  exact ⟨g, rfl, hc, hcell⟩
set_option maxHeartbeats 3200000 in
set_option maxRecDepth 100000 in
theorem rf_Told_old {k : Nat} (H : RIn w R A b n me v tell l tp tc lp lc) (h1 : (k : Int) < n) (h2 : (k : Int) ≠ me) (h7 : tell.length ≤ 7) (hin : k ∈ tell) :
    Calls Try.prog 19 #[.pointer (some ⟨b, 0, none⟩), .int .u64 v, .int .i64 (k : Int)] w fun x w' => x = .returned (.tuple #[.bool false, .int .i64 0]) ∧ w = w' := by
  obtain ⟨a0, a1, a2, a3, a4, ff, hz⟩ := H.kb.c5
  have d1 : decide ((k : Int) < 0) = false := by simp
  have d2 : decide (n ≤ (k : Int)) = false := by simp; omega
  have d3 : ((k : Int) == me) = false := by simpa using h2
  obtain ⟨g, rfl, hc, hcell⟩ := tell_cells H (List.length_pos_of_mem hin)
  have Hcell := Lib.hid hcell
  have Hin := Lib.hid hin
  clear H ff h2 hcell hin
  go_enter Try.func19, Try.ntmps19
  go_wp2_with fail
  go_loopw [8] (fun i wr => ∃ j : Nat, j ≤ tell.length ∧ i = .int .i64 j ∧ wr = w ∧ Hid (k ∉ tell.take j)) (fun i _ => tell.length - (intOf i).toNat)
  case atStart => exact ⟨0, Nat.zero_le _, rfl, rfl, Lib.hid (by simp)⟩
  case round =>
    obtain ⟨j, hj, rfl, rfl, Hl⟩ := hrel
    by_cases hlt : j < tell.length
    · have hce := Hcell.out j hlt
      by_cases hx : tell[j] = k
      · rw [hx] at hce
        clear hx
        go_wp2_with fail
        go_ret2
        exact ⟨rfl, rfl⟩
      · have hne : ((tell[j] : Int) == (k : Int)) = false := by simp; exact_mod_cast hx
        have Hn := Lib.hid (show k ∉ tell.take (j + 1) from by
          rw [take_snoc tell j hlt]
          intro h
          rcases List.mem_append.1 h with h | h
          · exact Hl.out h
          · simp at h; exact hx h.symm)
        clear hx
        go_wp2_with fail
        go_roundw
        case rel => exact ⟨j + 1, by omega, by go_num, by trivial, Hn⟩
        case measure => simp [intOf]; omega
    · obtain rfl : j = tell.length := by omega
      exact absurd Hin.out (by have := Hl.out; rw [List.take_length] at this; exact this)
set_option maxHeartbeats 3200000 in
set_option maxRecDepth 100000 in
theorem rf_Told_new {k : Nat} (H : RIn w R A b n me v tell l tp tc lp lc) (hn7 : n ≤ 7) (h1 : (k : Int) < n) (h2 : (k : Int) ≠ me) (h7 : tell.length ≤ 7) (hin : k ∉ tell) (hA : ∀ j, A j → ¬ R j) :
    Calls Try.prog 19 #[.pointer (some ⟨b, 0, none⟩), .int .u64 v, .int .i64 (k : Int)] w fun x w' => x = .returned (.tuple #[.bool (decide ((tell.length : Int) + 1 = n / 2)), .int .i64 0]) ∧ RCh w' (More R w w') A b n me v (tell ++ [k]) l ∧ Ext R w w' := by
  obtain ⟨i0, hi, iz0, iz1, iz2⟩ := info_parts infoI3
  obtain ⟨a0, a1, a2, a3, a4, ff, hz⟩ := H.kb.c5
  have d1 : decide ((k : Int) < 0) = false := by simp
  have d2 : decide (n ≤ (k : Int)) = false := by simp; omega
  have d3 : ((k : Int) == me) = false := by simpa using h2
  have hn0 : 0 ≤ n := by omega
  have Hcell := Lib.hid (fun h0 => tell_cells H h0)
  have Hin := Lib.hid hin
  have HH := Lib.hid H
  have HA := Lib.hid hA
  clear H ff h2 hin hA
  go_enter Try.func19, Try.ntmps19
  go_wp2_with fail
  go_loopw [8] (fun i wr => ∃ j : Nat, j ≤ tell.length ∧ i = .int .i64 j ∧ wr = w) (fun i _ => tell.length - (intOf i).toNat)
  case atStart => exact ⟨0, Nat.zero_le _, rfl, rfl⟩
  case round =>
    obtain ⟨j, hj, rfl, rfl⟩ := hrel
    by_cases hlt : j < tell.length
    · obtain ⟨g, rfl, hc, hcell⟩ := Hcell.out (by omega)
      have hce := hcell j hlt
      clear hcell
      have hne : ((tell[j] : Int) == (k : Int)) = false := by
        simp
        intro e
        have e' : tell[j] = k := by exact_mod_cast e
        exact Hin.out (e' ▸ List.getElem_mem hlt)
      go_wp2_with fail
      go_roundw
      case rel => exact ⟨j + 1, by omega, by go_num, by trivial⟩
      case measure => simp [intOf]; omega
    · obtain rfl : j = tell.length := by omega
      clear hlt hj
      go_wp2_with (at_builtin; refine wpList_append_own_at _ rfl _ _ 57 rfl 0 3 i0 (.int .i64 0) 1 8 Try.underlying57 hi iz0 iz1 iz2 rfl (by decide) _ tell.length (icells tell) rfl (own_alloc HH.out.ht _) ⟨wr.heap.size, 0, none⟩ 1 1 [.int .i64 (k : Int)] rfl rfl ?c1 ?c2 ?c3 ?c4 ?c5 ?_)
      case c1 => exact news_of_block (cs := [.int .i64 (k : Int)]) (heap_alloc_new _ _)
      case c2 => intro u hu; simp at hu; subst hu; rfl
      case c3 => unfold maxLen; omega
      case c4 => omega
      case c5 => exact Nat.zero_le _
      intro v' w3 hown3 hgrow3 _ hwh
      obtain ⟨p3, c3, rfl⟩ := own_slice hown3
      obtain ⟨hin3, hex3, hk3⟩ := HH.out.told ((Below.refl wr.heap.size wr).alloc (Nat.le_refl _) (.cells #[.int .i64 (k : Int)] 3)) hown3 hgrow3 (by simpa using hwh) HA.out
      have HI := Lib.hid hin3
      have HX := Lib.hid hex3
      clear hown3 hgrow3 hwh hin3 hex3 a0 a1 a2 a3 a4 hz
      obtain ⟨a0, a1, a2, a3, a4, ff, hz⟩ := hk3.c5
      have f3 := ff 3
      clear ff hk3
      go_wp2_with fail
      obtain ⟨b0, b1, b2, b3, b4, -, hzb⟩ := HI.out.kb.c5
      rw [show (tell ++ [k]).length = tell.length + 1 by simp] at b3
      clear a0 a1 a2 a3 a4 hz f3
      generalize w3.setCell ⟨b, 3, none⟩ (.slice p3 (tell.length + 1) c3) = W4 at *
      have hS : Holds [(b, 3, .slice p3 (tell.length + 1) c3), (b, 0, .int .i64 n)] W4.drew := ⟨b3, b0, trivial⟩
      have HI2 := Lib.hid (HI.out.below (Below.refl _ W4).drew)
      clear b0 b1 b2 b3 b4 hzb
      refine begin_D (T := Hold0) [] (by kernel_rfl) hS (fun _ => trivial) ?_
      refine take_S (v := ?v0a) 0 rfl (by kernel_rfl) (by kernel_rfl) (by kernel_rfl) (by kernel_rfl) (fun _ _ _ h => h) hS (fun _ => trivial) rfl (fun w' hq => ?h0a) ?_
      case h0a => obtain ⟨q0, q1, -⟩ := hq; change _ = some _ at q0; change _ = some _ at q1; go_simp; try with_reducible rfl
      try simp only [Act.put, List.setIfInBounds_toArray, List.set_cons_zero, List.set_cons_succ, List.getElem_toArray, List.getElem_cons_succ, List.getElem_cons_zero]
      refine take_S (v := ?v1a) 1 rfl (by kernel_rfl) (by kernel_rfl) (by kernel_rfl) (by kernel_rfl) (fun _ _ _ h => h) hS (fun _ => trivial) rfl (fun w' hq => ?h1a) ?_
      case h1a => obtain ⟨q0, q1, -⟩ := hq; change _ = some _ at q0; change _ = some _ at q1; go_simp; try with_reducible rfl
      try simp only [Act.put, List.setIfInBounds_toArray, List.set_cons_zero, List.set_cons_succ, List.getElem_toArray, List.getElem_cons_succ, List.getElem_cons_zero]
      refine take_S (v := ?v2a) 2 rfl (by kernel_rfl) (by kernel_rfl) (by kernel_rfl) (by kernel_rfl) (fun _ _ _ h => h) hS (fun _ => trivial) rfl (fun w' hq => ?h2a) ?_
      case h2a => obtain ⟨q0, q1, -⟩ := hq; change _ = some _ at q0; change _ = some _ at q1; go_simp; try with_reducible rfl
      try simp only [Act.put, List.setIfInBounds_toArray, List.set_cons_zero, List.set_cons_succ, List.getElem_toArray, List.getElem_cons_succ, List.getElem_cons_zero]
      refine take_S (v := ?v3a) 3 rfl (by kernel_rfl) (by kernel_rfl) (by kernel_rfl) (by kernel_rfl) (fun _ _ _ h => h) hS (fun _ => trivial) rfl (fun w' hq => ?h3a) ?_
      case h3a => obtain ⟨q0, q1, -⟩ := hq; change _ = some _ at q0; change _ = some _ at q1; go_simp; try with_reducible rfl
      try simp only [Act.put, List.setIfInBounds_toArray, List.set_cons_zero, List.set_cons_succ, List.getElem_toArray, List.getElem_cons_succ, List.getElem_cons_zero]
      refine take_S (v := ?v4a) 4 rfl (by kernel_rfl) (by kernel_rfl) (by kernel_rfl) (by kernel_rfl) (fun _ _ _ h => h) hS (fun _ => trivial) rfl (fun w' hq => ?h4a) ?_
      case h4a => obtain ⟨q0, q1, -⟩ := hq; change _ = some _ at q0; change _ = some _ at q1; go_simp; try with_reducible rfl
      try simp only [Act.put, List.setIfInBounds_toArray, List.set_cons_zero, List.set_cons_succ, List.getElem_toArray, List.getElem_cons_succ, List.getElem_cons_zero]
      refine take_S (v := ?v5a) 5 rfl (by kernel_rfl) (by kernel_rfl) (by kernel_rfl) (by kernel_rfl) (fun _ _ _ h => h) hS (fun _ => trivial) rfl (fun w' hq => ?h5a) ?_
      case h5a => obtain ⟨q0, q1, -⟩ := hq; change _ = some _ at q0; change _ = some _ at q1; go_simp; try with_reducible rfl
      try simp only [Act.put, List.setIfInBounds_toArray, List.set_cons_zero, List.set_cons_succ, List.getElem_toArray, List.getElem_cons_succ, List.getElem_cons_zero]
      refine take_S (v := ?v6a) 6 rfl (by kernel_rfl) (by kernel_rfl) (by kernel_rfl) (by kernel_rfl) (fun _ _ _ h => h) hS (fun _ => trivial) rfl (fun w' hq => ?h6a) ?_
      case h6a => obtain ⟨q0, q1, -⟩ := hq; change _ = some _ at q0; change _ = some _ at q1; go_simp; try with_reducible rfl
      try simp only [Act.put, List.setIfInBounds_toArray, List.set_cons_zero, List.set_cons_succ, List.getElem_toArray, List.getElem_cons_succ, List.getElem_cons_zero]
      refine take_S (v := ?v7a) 7 rfl (by kernel_rfl) (by kernel_rfl) (by kernel_rfl) (by kernel_rfl) (fun _ _ _ h => h) hS (fun _ => trivial) rfl (fun w' hq => ?h7a) ?_
      case h7a => obtain ⟨q0, q1, -⟩ := hq; change _ = some _ at q0; change _ = some _ at q1; go_simp; try with_reducible rfl
      try simp only [Act.put, List.setIfInBounds_toArray, List.set_cons_zero, List.set_cons_succ, List.getElem_toArray, List.getElem_cons_succ, List.getElem_cons_zero]
      refine take_S (v := ?v8a) 8 rfl (by kernel_rfl) (by kernel_rfl) (by kernel_rfl) (by kernel_rfl) (fun _ _ _ h => h) hS (fun _ => trivial) rfl (fun w' hq => ?h8a) ?_
      case h8a => obtain ⟨q0, q1, -⟩ := hq; change _ = some _ at q0; change _ = some _ at q1; go_simp; try with_reducible rfl
      try simp only [Act.put, List.setIfInBounds_toArray, List.set_cons_zero, List.set_cons_succ, List.getElem_toArray, List.getElem_cons_succ, List.getElem_cons_zero]
      refine take_S (v := (.int .i64 (n / 2))) 9 rfl (by kernel_rfl) (by kernel_rfl) (by kernel_rfl) (by kernel_rfl) (fun _ _ _ h => h) hS (fun _ => trivial) rfl (fun w' hq => ?h9a) ?_
      case h9a => obtain ⟨q0, q1, -⟩ := hq; change _ = some _ at q0; change _ = some _ at q1; go_simp; (rw [Int.tdiv_eq_ediv_of_nonneg hn0]; exact IntWalk.i64_in _ (by omega))
      try simp only [Act.put, List.setIfInBounds_toArray, List.set_cons_zero, List.set_cons_succ, List.getElem_toArray, List.getElem_cons_succ, List.getElem_cons_zero]
      refine take_S (v := ?v10a) 10 rfl (by kernel_rfl) (by kernel_rfl) (by kernel_rfl) (by kernel_rfl) (fun _ _ _ h => h) hS (fun _ => trivial) rfl (fun w' hq => ?h10a) ?_
      case h10a => obtain ⟨q0, q1, -⟩ := hq; change _ = some _ at q0; change _ = some _ at q1; go_simp; try with_reducible rfl
      try simp only [Act.put, List.setIfInBounds_toArray, List.set_cons_zero, List.set_cons_succ, List.getElem_toArray, List.getElem_cons_succ, List.getElem_cons_zero]
      refine take_S (v := ?v11a) 11 rfl (by kernel_rfl) (by kernel_rfl) (by kernel_rfl) (by kernel_rfl) (fun _ _ _ h => h) hS (fun _ => trivial) rfl (fun w' hq => ?h11a) ?_
      case h11a => obtain ⟨q0, q1, -⟩ := hq; change _ = some _ at q0; change _ = some _ at q1; go_simp; try with_reducible rfl
      try simp only [Act.put, List.setIfInBounds_toArray, List.set_cons_zero, List.set_cons_succ, List.getElem_toArray, List.getElem_cons_succ, List.getElem_cons_zero]
      refine take_S (v := ?v12a) 12 rfl (by kernel_rfl) (by kernel_rfl) (by kernel_rfl) (by kernel_rfl) (fun _ _ _ h => h) hS (fun _ => trivial) rfl (fun w' hq => ?h12a) ?_
      case h12a => obtain ⟨q0, q1, -⟩ := hq; change _ = some _ at q0; change _ = some _ at q1; go_simp; try with_reducible rfl
      try simp only [Act.put, List.setIfInBounds_toArray, List.set_cons_zero, List.set_cons_succ, List.getElem_toArray, List.getElem_cons_succ, List.getElem_cons_zero]
      refine done_D (by kernel_rfl) ?_ _
      clear hS
      go_wp2_with fail
      go_ret2
      refine ⟨rfl, ⟨p3, c3, lp, lc, HI2.out⟩, HX.out.trans (Ext.of_below _ (Below.refl _ W4).drew)⟩
end
end Go.Proofs.Ytgmekodfkhihiaa
