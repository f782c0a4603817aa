/-
  The reference's Same: the contract. No condition but lengths far below what memory bears. (Printed by wip/gen_same05.py.)
-/
import Derived.Test.YtelaiafpfaohfaaChars
namespace Go.Proofs.Ytelaiafpfaohfaa
open Go.RowKit
set_option linter.unusedSimpArgs false
set_option linter.unusedVariables false

theorem CharRd.at {w : World} {S : Nat → Prop} {p : Option Addr} {c k : Nat} {l : List Int} (h : CharRd w S (.slice p l.length c) l) (hk : k < l.length) : ∃ b off, p = some ⟨b, off, none⟩ ∧ l.length ≤ c ∧ w.cell? ⟨b, off + k, none⟩ = some (.int .i32 (l[k]'hk)) := by
  obtain ⟨b, off, he, h1, _, hc⟩ := Rd.addr h (by omega)
  refine ⟨b, off, he, h1, hc k _ ?_⟩
  unfold ccells
  rw [List.getElem?_map, List.getElem?_eq_getElem hk]
  rfl
set_option maxHeartbeats 1600000 in
set_option maxRecDepth 100000 in
theorem same5 {w : World} {S1 S2 : Nat → Prop} {v1 v2 : Value} {l r : List Int} (h1 : CharRd w S1 v1 l) (h2 : CharRd w S2 v2 r) (hl : l.length ≤ 1000000) (hr : r.length ≤ 1000000) :
    Calls Try.prog 18 #[v1, v2] w fun e w' => e = .returned (.bool (decide (l = r))) ∧ Below w.heap.size w w' := by
  obtain ⟨p1, c1, rfl⟩ := Rd.slice h1
  obtain ⟨p2, c2, rfl⟩ := Rd.slice h2
  have H1 := Lib.hid h1
  have H2 := Lib.hid h2
  clear h1 h2
  by_cases hne : l.length = r.length
  · have H2' := Lib.hid (show CharRd w S2 (.slice p2 l.length c2) r from by rw [hne]; exact H2.out)
    have Hne := Lib.hid hne
    rw [← hne]
    clear H2 hne hr
    go_enter Try.func18, Try.ntmps18
    go_wp2_with fail
    go_loopw [5] (fun i wr => ∃ k : Nat, k ≤ l.length ∧ i = .int .i64 k ∧ Hid (l.take k = r.take k ∧ Below w.heap.size w wr)) (fun i _ => l.length - (intOf i).toNat)
    case atStart => exact ⟨0, Nat.zero_le _, rfl, Lib.hid ⟨rfl, Below.refl _ _⟩⟩
    case round =>
      obtain ⟨k, hk, rfl, hR⟩ := hrel
      by_cases hlt : k < l.length
      · have hlt2 : k < r.length := by rw [← Hne.out]; exact hlt
        obtain ⟨b1, o1, he, _, e1⟩ := CharRd.at H1.out hlt
        subst he
        obtain ⟨b2, o2, he, _, e2⟩ := CharRd.at (c := c2) (by have h := H2'.out; rw [Hne.out] at h; exact h) hlt2
        subst he
        obtain ⟨heq, hX⟩ := hR.out
        have ltb1 := lt_of_cell e1
        have ltb2 := lt_of_cell e2
        obtain ⟨hc, -⟩ := bcell hX
        rw [← hc b1 _ ltb1] at e1
        rw [← hc b2 _ ltb2] at e2
        have HX := Lib.hid hX
        have Hts := Lib.hid (And.intro (take_snoc l k hlt) (take_snoc r k hlt2))
        have Heq := Lib.hid heq
        have Hgets := Lib.hid (show l = r → l[k]'hlt = r[k]'hlt2 from fun h => by subst h; rfl)
        clear hc hX heq hR
        generalize l[k]'hlt = x at *
        generalize r[k]'hlt2 = y at *
        clear hlt2
        by_cases hxy : x = y
        · subst hxy
          go_wp2_with fail
          have hS : Hold2 (b1, o1 + k, .int .i32 x) (b2, o2 + k, .int .i32 x) wr.drew := ⟨e1, e2⟩
          have hT : Hold0 wr.drew := trivial
          refine begin_D [] (by kernel_rfl) hS (fun _ => hT) ?_
          refine take_S (v := ?v0a) 0 rfl (by kernel_rfl) (by kernel_rfl) (by kernel_rfl) (by kernel_rfl) (fun _ _ _ h => h) hS (fun _ => trivial) rfl (fun w' hq => ?h0a) ?_
          case h0a => obtain ⟨hq0, hq1⟩ := hq; change _ = some _ at hq0; change _ = some _ at hq1; go_simp; try with_reducible rfl
          try simp only [Act.put, List.setIfInBounds_toArray, List.set_cons_zero, List.set_cons_succ, List.getElem_toArray, List.getElem_cons_succ, List.getElem_cons_zero]
          refine take_S (v := ?v1a) 1 rfl (by kernel_rfl) (by kernel_rfl) (by kernel_rfl) (by kernel_rfl) (fun _ _ _ h => h) hS (fun _ => trivial) rfl (fun w' hq => ?h1a) ?_
          case h1a => obtain ⟨hq0, hq1⟩ := hq; change _ = some _ at hq0; change _ = some _ at hq1; go_simp; try with_reducible rfl
          try simp only [Act.put, List.setIfInBounds_toArray, List.set_cons_zero, List.set_cons_succ, List.getElem_toArray, List.getElem_cons_succ, List.getElem_cons_zero]
          refine take_S (v := ?v2a) 2 rfl (by kernel_rfl) (by kernel_rfl) (by kernel_rfl) (by kernel_rfl) (fun _ _ _ h => h) hS (fun _ => trivial) rfl (fun w' hq => ?h2a) ?_
          case h2a => obtain ⟨hq0, hq1⟩ := hq; change _ = some _ at hq0; change _ = some _ at hq1; go_simp; try with_reducible rfl
          try simp only [Act.put, List.setIfInBounds_toArray, List.set_cons_zero, List.set_cons_succ, List.getElem_toArray, List.getElem_cons_succ, List.getElem_cons_zero]
          refine take_S (v := ?v3a) 3 rfl (by kernel_rfl) (by kernel_rfl) (by kernel_rfl) (by kernel_rfl) (fun _ _ _ h => h) hS (fun _ => trivial) rfl (fun w' hq => ?h3a) ?_
          case h3a => obtain ⟨hq0, hq1⟩ := hq; change _ = some _ at hq0; change _ = some _ at hq1; go_simp; try with_reducible rfl
          try simp only [Act.put, List.setIfInBounds_toArray, List.set_cons_zero, List.set_cons_succ, List.getElem_toArray, List.getElem_cons_succ, List.getElem_cons_zero]
          refine take_S (v := ?v4a) 4 rfl (by kernel_rfl) (by kernel_rfl) (by kernel_rfl) (by kernel_rfl) (fun _ _ _ h => h) hS (fun _ => trivial) rfl (fun w' hq => ?h4a) ?_
          case h4a => obtain ⟨hq0, hq1⟩ := hq; change _ = some _ at hq0; change _ = some _ at hq1; go_simp; try with_reducible rfl
          try simp only [Act.put, List.setIfInBounds_toArray, List.set_cons_zero, List.set_cons_succ, List.getElem_toArray, List.getElem_cons_succ, List.getElem_cons_zero]
          refine take_S (v := ?v5a) 5 rfl (by kernel_rfl) (by kernel_rfl) (by kernel_rfl) (by kernel_rfl) (fun _ _ _ h => h) hS (fun _ => trivial) rfl (fun w' hq => ?h5a) ?_
          case h5a => obtain ⟨hq0, hq1⟩ := hq; change _ = some _ at hq0; change _ = some _ at hq1; go_simp; try with_reducible rfl
          try simp only [Act.put, List.setIfInBounds_toArray, List.set_cons_zero, List.set_cons_succ, List.getElem_toArray, List.getElem_cons_succ, List.getElem_cons_zero]
          refine take_S (v := ?v6a) 6 rfl (by kernel_rfl) (by kernel_rfl) (by kernel_rfl) (by kernel_rfl) (fun _ _ _ h => h) hS (fun _ => trivial) rfl (fun w' hq => ?h6a) ?_
          case h6a => obtain ⟨hq0, hq1⟩ := hq; change _ = some _ at hq0; change _ = some _ at hq1; go_simp; try with_reducible rfl
          try simp only [Act.put, List.setIfInBounds_toArray, List.set_cons_zero, List.set_cons_succ, List.getElem_toArray, List.getElem_cons_succ, List.getElem_cons_zero]
          refine take_S (v := ?v7a) 7 rfl (by kernel_rfl) (by kernel_rfl) (by kernel_rfl) (by kernel_rfl) (fun _ _ _ h => h) hS (fun _ => trivial) rfl (fun w' hq => ?h7a) ?_
          case h7a => obtain ⟨hq0, hq1⟩ := hq; change _ = some _ at hq0; change _ = some _ at hq1; go_simp; try with_reducible rfl
          try simp only [Act.put, List.setIfInBounds_toArray, List.set_cons_zero, List.set_cons_succ, List.getElem_toArray, List.getElem_cons_succ, List.getElem_cons_zero]
          refine take_S (v := ?v8a) 8 rfl (by kernel_rfl) (by kernel_rfl) (by kernel_rfl) (by kernel_rfl) (fun _ _ _ h => h) hS (fun _ => trivial) rfl (fun w' hq => ?h8a) ?_
          case h8a => obtain ⟨hq0, hq1⟩ := hq; change _ = some _ at hq0; change _ = some _ at hq1; go_simp; try with_reducible rfl
          try simp only [Act.put, List.setIfInBounds_toArray, List.set_cons_zero, List.set_cons_succ, List.getElem_toArray, List.getElem_cons_succ, List.getElem_cons_zero]
          refine done_D (by kernel_rfl) ?_ _
          go_wp2_with fail
          go_roundw
          case rel => exact ⟨k + 1, by omega, by go_num, Lib.hid ⟨by rw [Hts.out.1, Hts.out.2, Heq.out], HX.out.drew⟩⟩
          case measure => simp [intOf] <;> omega
        · have hb : (x == y) = false := by rw [beq_eq_false_iff_ne]; exact hxy
          go_wp2_with fail
          have hS : Hold2 (b1, o1 + k, .int .i32 x) (b2, o2 + k, .int .i32 y) wr.drew := ⟨e1, e2⟩
          have hT : Hold0 wr.drew := trivial
          refine begin_D [] (by kernel_rfl) hS (fun _ => hT) ?_
          refine take_S (v := ?v0b) 0 rfl (by kernel_rfl) (by kernel_rfl) (by kernel_rfl) (by kernel_rfl) (fun _ _ _ h => h) hS (fun _ => trivial) rfl (fun w' hq => ?h0b) ?_
          case h0b => obtain ⟨hq0, hq1⟩ := hq; change _ = some _ at hq0; change _ = some _ at hq1; go_simp; try with_reducible rfl
          try simp only [Act.put, List.setIfInBounds_toArray, List.set_cons_zero, List.set_cons_succ, List.getElem_toArray, List.getElem_cons_succ, List.getElem_cons_zero]
          refine take_S (v := ?v1b) 1 rfl (by kernel_rfl) (by kernel_rfl) (by kernel_rfl) (by kernel_rfl) (fun _ _ _ h => h) hS (fun _ => trivial) rfl (fun w' hq => ?h1b) ?_
          case h1b => obtain ⟨hq0, hq1⟩ := hq; change _ = some _ at hq0; change _ = some _ at hq1; go_simp; try with_reducible rfl
          try simp only [Act.put, List.setIfInBounds_toArray, List.set_cons_zero, List.set_cons_succ, List.getElem_toArray, List.getElem_cons_succ, List.getElem_cons_zero]
          refine take_S (v := ?v2b) 2 rfl (by kernel_rfl) (by kernel_rfl) (by kernel_rfl) (by kernel_rfl) (fun _ _ _ h => h) hS (fun _ => trivial) rfl (fun w' hq => ?h2b) ?_
          case h2b => obtain ⟨hq0, hq1⟩ := hq; change _ = some _ at hq0; change _ = some _ at hq1; go_simp; try with_reducible rfl
          try simp only [Act.put, List.setIfInBounds_toArray, List.set_cons_zero, List.set_cons_succ, List.getElem_toArray, List.getElem_cons_succ, List.getElem_cons_zero]
          refine take_S (v := ?v3b) 3 rfl (by kernel_rfl) (by kernel_rfl) (by kernel_rfl) (by kernel_rfl) (fun _ _ _ h => h) hS (fun _ => trivial) rfl (fun w' hq => ?h3b) ?_
          case h3b => obtain ⟨hq0, hq1⟩ := hq; change _ = some _ at hq0; change _ = some _ at hq1; go_simp; try with_reducible rfl
          try simp only [Act.put, List.setIfInBounds_toArray, List.set_cons_zero, List.set_cons_succ, List.getElem_toArray, List.getElem_cons_succ, List.getElem_cons_zero]
          refine take_S (v := ?v4b) 4 rfl (by kernel_rfl) (by kernel_rfl) (by kernel_rfl) (by kernel_rfl) (fun _ _ _ h => h) hS (fun _ => trivial) rfl (fun w' hq => ?h4b) ?_
          case h4b => obtain ⟨hq0, hq1⟩ := hq; change _ = some _ at hq0; change _ = some _ at hq1; go_simp; try with_reducible rfl
          try simp only [Act.put, List.setIfInBounds_toArray, List.set_cons_zero, List.set_cons_succ, List.getElem_toArray, List.getElem_cons_succ, List.getElem_cons_zero]
          refine take_S (v := ?v5b) 5 rfl (by kernel_rfl) (by kernel_rfl) (by kernel_rfl) (by kernel_rfl) (fun _ _ _ h => h) hS (fun _ => trivial) rfl (fun w' hq => ?h5b) ?_
          case h5b => obtain ⟨hq0, hq1⟩ := hq; change _ = some _ at hq0; change _ = some _ at hq1; go_simp; try with_reducible rfl
          try simp only [Act.put, List.setIfInBounds_toArray, List.set_cons_zero, List.set_cons_succ, List.getElem_toArray, List.getElem_cons_succ, List.getElem_cons_zero]
          refine take_S (v := ?v6b) 6 rfl (by kernel_rfl) (by kernel_rfl) (by kernel_rfl) (by kernel_rfl) (fun _ _ _ h => h) hS (fun _ => trivial) rfl (fun w' hq => ?h6b) ?_
          case h6b => obtain ⟨hq0, hq1⟩ := hq; change _ = some _ at hq0; change _ = some _ at hq1; go_simp; try with_reducible rfl
          try simp only [Act.put, List.setIfInBounds_toArray, List.set_cons_zero, List.set_cons_succ, List.getElem_toArray, List.getElem_cons_succ, List.getElem_cons_zero]
          refine take_S (v := ?v7b) 7 rfl (by kernel_rfl) (by kernel_rfl) (by kernel_rfl) (by kernel_rfl) (fun _ _ _ h => h) hS (fun _ => trivial) rfl (fun w' hq => ?h7b) ?_
          case h7b => obtain ⟨hq0, hq1⟩ := hq; change _ = some _ at hq0; change _ = some _ at hq1; go_simp; try with_reducible rfl
          try simp only [Act.put, List.setIfInBounds_toArray, List.set_cons_zero, List.set_cons_succ, List.getElem_toArray, List.getElem_cons_succ, List.getElem_cons_zero]
          refine take_S (v := ?v8b) 8 rfl (by kernel_rfl) (by kernel_rfl) (by kernel_rfl) (by kernel_rfl) (fun _ _ _ h => h) hS (fun _ => trivial) rfl (fun w' hq => ?h8b) ?_
          case h8b => obtain ⟨hq0, hq1⟩ := hq; change _ = some _ at hq0; change _ = some _ at hq1; go_simp; try with_reducible rfl
          try simp only [Act.put, List.setIfInBounds_toArray, List.set_cons_zero, List.set_cons_succ, List.getElem_toArray, List.getElem_cons_succ, List.getElem_cons_zero]
          refine done_D (by kernel_rfl) ?_ _
          go_wp2_with fail
          go_ret
          refine ⟨?_, HX.out.drew⟩
          rw [decide_eq_false (fun h => hxy (Hgets.out h))]
          rfl
      · obtain rfl : k = l.length := by omega
        obtain ⟨heq, hX⟩ := hR.out
        have hlr : l = r := by
          rw [List.take_length, Hne.out, List.take_length] at heq
          exact heq
        have HX := Lib.hid hX
        have Hlr := Lib.hid hlr
        clear heq hX hR hlr
        go_wp2_with fail
        go_ret
        refine ⟨?_, HX.out⟩
        rw [decide_eq_true Hlr.out]
        rfl
  · have hb : ((l.length : Int) == (r.length : Int)) = false := by rw [beq_eq_false_iff_ne]; omega
    go_enter Try.func18, Try.ntmps18
    go_wp2_with fail
    go_ret
    refine ⟨?_, Below.refl _ _⟩
    rw [decide_eq_false (fun h => hne (by rw [h]))]
    rfl
end Go.Proofs.Ytelaiafpfaohfaa
