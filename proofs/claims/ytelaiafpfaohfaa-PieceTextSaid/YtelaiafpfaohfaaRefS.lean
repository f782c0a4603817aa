/-
  The law's same over the same pieces: the contract. No condition but lengths far below what memory bears. (Printed by wip/gen_refs.py.)
-/
import Derived.Test.YtelaiafpfaohfaaRefP
namespace Go.Proofs.Ytelaiafpfaohfaa
open Go.RowKit
set_option linter.unusedSimpArgs false
set_option linter.unusedVariables false

theorem PcsRd.at_ {w : World} {S : Nat → Prop} {p : Option Addr} {c k : Nat} {l : List Pc} (h : PcsRd w S (.slice p l.length c) l) (hk : k < l.length) : ∃ b off, p = some ⟨b, off, none⟩ ∧ l.length ≤ c ∧
    w.cell? ⟨b, off + k * 3, none⟩ = some (.bool l[k].second) ∧ w.cell? ⟨b, off + k * 3 + 1, none⟩ = some (.int .i64 l[k].at_) ∧ w.cell? ⟨b, off + k * 3 + 2, none⟩ = some (.int .i64 l[k].len) := by
  obtain ⟨b, off, he, h1, _, hc⟩ := Rd.addr h (by omega)
  obtain ⟨x0, x1, x2⟩ := pc_at hk
  exact ⟨b, off, he, h1, hc _ _ x0, hc _ _ x1, hc _ _ x2⟩
set_option maxHeartbeats 1600000 in
set_option maxRecDepth 100000 in
theorem law_same {w : World} {S1 S2 : Nat → Prop} {v1 v2 : Value} {l : List Pc} (h1 : PcsRd w S1 v1 l) (h2 : PcsRd w S2 v2 l) (hl : l.length ≤ 1000000) :
    Calls Try.prog 25 #[v1, v2] w fun e w' => e = .returned (.bool true) ∧ Below w.heap.size w w' := by
  obtain ⟨p1, c1, rfl⟩ := Rd.slice h1
  obtain ⟨p2, c2, rfl⟩ := Rd.slice h2
  have H1 := Lib.hid h1
  have H2 := Lib.hid h2
  clear h1 h2
  go_enter Try.func25, Try.ntmps25
  go_wp2_with fail
  go_loopw [13] (fun i wr => ∃ k : Nat, k ≤ l.length ∧ i = .int .i64 k ∧ Hid (Below w.heap.size w wr)) (fun i _ => l.length - (intOf i).toNat)
  case atStart => exact ⟨0, Nat.zero_le _, rfl, Lib.hid (Below.refl _ _)⟩
  case round =>
    obtain ⟨k, hk, rfl, hR⟩ := hrel
    by_cases hlt : k < l.length
    · obtain ⟨b1, o1, he, hn1, a0, a1, a2⟩ := PcsRd.at_ (H1.out.below hR.out) hlt
      subst he
      obtain ⟨b2, o2, he, hn2, m0, m1, m2⟩ := PcsRd.at_ (H2.out.below hR.out) hlt
      subst he
      generalize l[k]'hlt = pc at *
      obtain ⟨s, at_, ln⟩ := pc
      simp only at a0 a1 a2 m0 m1 m2
      go_wp2_with fail
      have hS : Holds [(b1, o1 + k * 3, .bool s), (b1, o1 + k * 3 + 1, .int .i64 at_), (b1, o1 + k * 3 + 2, .int .i64 ln), (b2, o2 + k * 3, .bool s), (b2, o2 + k * 3 + 1, .int .i64 at_), (b2, o2 + k * 3 + 2, .int .i64 ln)] wr.drew := ⟨a0, a1, a2, m0, m1, m2, trivial⟩
      refine begin_D (T := Hold0) [] (by kernel_rfl) hS (fun _ => trivial) ?_
      refine take_S (v := ?v0a) 0 rfl (by kernel_rfl) (by kernel_rfl) (by kernel_rfl) (by kernel_rfl) (fun _ _ _ h => h) hS (fun _ => trivial) rfl (fun w' hq => ?h0a) ?_
      case h0a => obtain ⟨hq0, hq1, hq2, hq3, hq4, hq5, -⟩ := hq; change _ = some _ at hq0; change _ = some _ at hq1; change _ = some _ at hq2; change _ = some _ at hq3; change _ = some _ at hq4; change _ = some _ at hq5; go_simp; try with_reducible rfl
      try simp only [Act.put, List.setIfInBounds_toArray, List.set_cons_zero, List.set_cons_succ, List.getElem_toArray, List.getElem_cons_succ, List.getElem_cons_zero]
      refine take_S (v := ?v1a) 1 rfl (by kernel_rfl) (by kernel_rfl) (by kernel_rfl) (by kernel_rfl) (fun _ _ _ h => h) hS (fun _ => trivial) rfl (fun w' hq => ?h1a) ?_
      case h1a => obtain ⟨hq0, hq1, hq2, hq3, hq4, hq5, -⟩ := hq; change _ = some _ at hq0; change _ = some _ at hq1; change _ = some _ at hq2; change _ = some _ at hq3; change _ = some _ at hq4; change _ = some _ at hq5; go_simp; try with_reducible rfl
      try simp only [Act.put, List.setIfInBounds_toArray, List.set_cons_zero, List.set_cons_succ, List.getElem_toArray, List.getElem_cons_succ, List.getElem_cons_zero]
      refine take_S (v := ?v2a) 2 rfl (by kernel_rfl) (by kernel_rfl) (by kernel_rfl) (by kernel_rfl) (fun _ _ _ h => h) hS (fun _ => trivial) rfl (fun w' hq => ?h2a) ?_
      case h2a => obtain ⟨hq0, hq1, hq2, hq3, hq4, hq5, -⟩ := hq; change _ = some _ at hq0; change _ = some _ at hq1; change _ = some _ at hq2; change _ = some _ at hq3; change _ = some _ at hq4; change _ = some _ at hq5; go_simp; try with_reducible rfl
      try simp only [Act.put, List.setIfInBounds_toArray, List.set_cons_zero, List.set_cons_succ, List.getElem_toArray, List.getElem_cons_succ, List.getElem_cons_zero]
      refine take_S (v := ?v3a) 3 rfl (by kernel_rfl) (by kernel_rfl) (by kernel_rfl) (by kernel_rfl) (fun _ _ _ h => h) hS (fun _ => trivial) rfl (fun w' hq => ?h3a) ?_
      case h3a => obtain ⟨hq0, hq1, hq2, hq3, hq4, hq5, -⟩ := hq; change _ = some _ at hq0; change _ = some _ at hq1; change _ = some _ at hq2; change _ = some _ at hq3; change _ = some _ at hq4; change _ = some _ at hq5; go_simp; try with_reducible rfl
      try simp only [Act.put, List.setIfInBounds_toArray, List.set_cons_zero, List.set_cons_succ, List.getElem_toArray, List.getElem_cons_succ, List.getElem_cons_zero]
      refine take_S (v := ?v4a) 4 rfl (by kernel_rfl) (by kernel_rfl) (by kernel_rfl) (by kernel_rfl) (fun _ _ _ h => h) hS (fun _ => trivial) rfl (fun w' hq => ?h4a) ?_
      case h4a => obtain ⟨hq0, hq1, hq2, hq3, hq4, hq5, -⟩ := hq; change _ = some _ at hq0; change _ = some _ at hq1; change _ = some _ at hq2; change _ = some _ at hq3; change _ = some _ at hq4; change _ = some _ at hq5; go_simp; try with_reducible rfl
      try simp only [Act.put, List.setIfInBounds_toArray, List.set_cons_zero, List.set_cons_succ, List.getElem_toArray, List.getElem_cons_succ, List.getElem_cons_zero]
      refine take_S (v := ?v5a) 5 rfl (by kernel_rfl) (by kernel_rfl) (by kernel_rfl) (by kernel_rfl) (fun _ _ _ h => h) hS (fun _ => trivial) rfl (fun w' hq => ?h5a) ?_
      case h5a => obtain ⟨hq0, hq1, hq2, hq3, hq4, hq5, -⟩ := hq; change _ = some _ at hq0; change _ = some _ at hq1; change _ = some _ at hq2; change _ = some _ at hq3; change _ = some _ at hq4; change _ = some _ at hq5; go_simp; try with_reducible rfl
      try simp only [Act.put, List.setIfInBounds_toArray, List.set_cons_zero, List.set_cons_succ, List.getElem_toArray, List.getElem_cons_succ, List.getElem_cons_zero]
      refine take_S (v := ?v6a) 6 rfl (by kernel_rfl) (by kernel_rfl) (by kernel_rfl) (by kernel_rfl) (fun _ _ _ h => h) hS (fun _ => trivial) rfl (fun w' hq => ?h6a) ?_
      case h6a => obtain ⟨hq0, hq1, hq2, hq3, hq4, hq5, -⟩ := hq; change _ = some _ at hq0; change _ = some _ at hq1; change _ = some _ at hq2; change _ = some _ at hq3; change _ = some _ at hq4; change _ = some _ at hq5; go_simp; try with_reducible rfl
      try simp only [Act.put, List.setIfInBounds_toArray, List.set_cons_zero, List.set_cons_succ, List.getElem_toArray, List.getElem_cons_succ, List.getElem_cons_zero]
      refine take_S (v := ?v7a) 7 rfl (by kernel_rfl) (by kernel_rfl) (by kernel_rfl) (by kernel_rfl) (fun _ _ _ h => h) hS (fun _ => trivial) rfl (fun w' hq => ?h7a) ?_
      case h7a => obtain ⟨hq0, hq1, hq2, hq3, hq4, hq5, -⟩ := hq; change _ = some _ at hq0; change _ = some _ at hq1; change _ = some _ at hq2; change _ = some _ at hq3; change _ = some _ at hq4; change _ = some _ at hq5; go_simp; try with_reducible rfl
      try simp only [Act.put, List.setIfInBounds_toArray, List.set_cons_zero, List.set_cons_succ, List.getElem_toArray, List.getElem_cons_succ, List.getElem_cons_zero]
      refine take_S (v := .bool false) 8 rfl (by kernel_rfl) (by kernel_rfl) (by kernel_rfl) (by kernel_rfl) (fun _ _ _ h => h) hS (fun _ => trivial) rfl (fun w' hq => ?h8a) ?_
      case h8a => obtain ⟨hq0, hq1, hq2, hq3, hq4, hq5, -⟩ := hq; change _ = some _ at hq0; change _ = some _ at hq1; change _ = some _ at hq2; change _ = some _ at hq3; change _ = some _ at hq4; change _ = some _ at hq5; go_simp; first | rfl | (simp; done) | skip
      try simp only [Act.put, List.setIfInBounds_toArray, List.set_cons_zero, List.set_cons_succ, List.getElem_toArray, List.getElem_cons_succ, List.getElem_cons_zero]
      refine done_D (by kernel_rfl) ?_ _
      go_wp2_with fail
      go_roundw
      case rel => exact ⟨k + 1, by omega, by go_num, Lib.hid hR.out.drew⟩
      case measure => simp [intOf] <;> omega
    · obtain rfl : k = l.length := by omega
      go_wp2_with fail
      go_ret
      exact ⟨rfl, hR.out⟩
end Go.Proofs.Ytelaiafpfaohfaa
