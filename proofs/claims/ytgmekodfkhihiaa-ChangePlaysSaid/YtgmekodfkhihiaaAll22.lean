/-
  The reference's All: the contract where both rows are one. (Printed by wip/gen_all.py.)
-/
import Derived.Test.YtgmekodfkhihiaaSame22
import Derived.Test.YtgmekodfkhihiaaLog22
namespace Go.Proofs.Ytgmekodfkhihiaa
open Go.RowKit
set_option linter.unusedSimpArgs false

theorem sameB_self (e : Ent) : sameB e e = true := by simp [sameB]

set_option maxHeartbeats 1600000 in
theorem ref_All {w : World} {S T : Nat → Prop} {v u : Value} {es : List Ent} (h : EntsRd w S v es) (k : EntsRd w T u es) (hn : es.length ≤ 1000) :
    Calls Try.prog 45 #[v, u] w fun x w' => x = .returned (.bool true) ∧ Below w.heap.size w w' := by
  obtain ⟨cs, hr, hE⟩ := h
  obtain ⟨ds, kr, kE⟩ := k
  obtain ⟨p, c, rfl⟩ := Rd.slice hr
  obtain ⟨q, d, rfl⟩ := Rd.slice kr
  have Hr := Lib.hid hr
  have HE := Lib.hid hE
  have Kr := Lib.hid kr
  have KE := Lib.hid kE
  clear hr hE kr kE
  go_enter Try.func45, Try.ntmps45
  go_wp2_with fail
  go_loopw [5] (fun i wr => ∃ k : Nat, k ≤ es.length ∧ i = .int .i64 k ∧ Below w.heap.size w wr) (fun i _ => es.length - (intOf i).toNat)
  case atStart => exact ⟨0, Nat.zero_le _, rfl, Below.refl _ _⟩
  case round =>
    obtain ⟨k, hk, rfl, hb⟩ := hrel
    have Hb := Lib.hid hb
    clear hb
    by_cases hlt : k < es.length
    · have hr := Hr.out
      have kr := Kr.out
      obtain ⟨b, off, he, _, _, hcell⟩ := Rd.addr hr (by omega)
      obtain ⟨b', off', he', _, _, kcell⟩ := Rd.addr kr (by omega)
      subst he
      subst he'
      obtain ⟨s, hs, hq⟩ := HE.out.2 k es[k] (List.getElem?_eq_getElem hlt)
      obtain ⟨s', ks, kq⟩ := KE.out.2 k es[k] (List.getElem?_eq_getElem hlt)
      obtain ⟨e0, e1, e2, e3⟩ := cells4 hcell hs
      obtain ⟨f0, f1, f2, f3⟩ := cells4 kcell ks
      obtain ⟨hc, -⟩ := bcell Hb.out
      have lt1 := lt_of_cell e0
      have lt2 := lt_of_cell f0
      rw [← hc b _ lt1] at e0 e1 e2 e3
      rw [← hc b' _ lt2] at f0 f1 f2 f3
      obtain ⟨sp, sc, rfl⟩ := Rd.slice hq
      obtain ⟨sp', sc', rfl⟩ := Rd.slice kq
      have Hq := Lib.hid hq
      have Kq := Lib.hid kq
      clear hq kq hc hs ks hcell kcell hr kr
      go_wp2_with fail
      have hS : Holds [(b, off + k * 4, .int .u64 es[k].t), (b, off + k * 4 + 1, .int .u32 es[k].c), (b, off + k * 4 + 2, .int .u64 es[k].r), (b, off + k * 4 + 3, .slice sp es[k].cmd.length sc),
          (b', off' + k * 4, .int .u64 es[k].t), (b', off' + k * 4 + 1, .int .u32 es[k].c), (b', off' + k * 4 + 2, .int .u64 es[k].r), (b', off' + k * 4 + 3, .slice sp' es[k].cmd.length sc')] wr.drew := ⟨e0, e1, e2, e3, f0, f1, f2, f3, trivial⟩
      have hT : Hold0 wr.drew := trivial
      refine begin_D [] (by kernel_rfl) hS (fun _ => hT) ?_
      refine take_S (v := ?v0) 0 rfl (by kernel_rfl) (by kernel_rfl) (by kernel_rfl) (by kernel_rfl) (fun _ _ _ h => h) hS (fun _ => hT) rfl (fun w' hq => ?h0) ?_
      case h0 => obtain ⟨hq0, hq1, hq2, hq3, hq4, hq5, hq6, hq7, -⟩ := hq; change _ = some _ at hq0; change _ = some _ at hq1; change _ = some _ at hq2; change _ = some _ at hq3; change _ = some _ at hq4; change _ = some _ at hq5; change _ = some _ at hq6; change _ = some _ at hq7; go_simp; try with_reducible rfl
      try simp only [Act.put, List.setIfInBounds_toArray, List.set_cons_zero, List.set_cons_succ, List.getElem_toArray, List.getElem_cons_succ, List.getElem_cons_zero]
      refine take_S (v := ?v1) 1 rfl (by kernel_rfl) (by kernel_rfl) (by kernel_rfl) (by kernel_rfl) (fun _ _ _ h => h) hS (fun _ => hT) rfl (fun w' hq => ?h1) ?_
      case h1 => obtain ⟨hq0, hq1, hq2, hq3, hq4, hq5, hq6, hq7, -⟩ := hq; change _ = some _ at hq0; change _ = some _ at hq1; change _ = some _ at hq2; change _ = some _ at hq3; change _ = some _ at hq4; change _ = some _ at hq5; change _ = some _ at hq6; change _ = some _ at hq7; go_simp; try with_reducible rfl
      try simp only [Act.put, List.setIfInBounds_toArray, List.set_cons_zero, List.set_cons_succ, List.getElem_toArray, List.getElem_cons_succ, List.getElem_cons_zero]
      refine take_S (v := ?v2) 2 rfl (by kernel_rfl) (by kernel_rfl) (by kernel_rfl) (by kernel_rfl) (fun _ _ _ h => h) hS (fun _ => hT) rfl (fun w' hq => ?h2) ?_
      case h2 => obtain ⟨hq0, hq1, hq2, hq3, hq4, hq5, hq6, hq7, -⟩ := hq; change _ = some _ at hq0; change _ = some _ at hq1; change _ = some _ at hq2; change _ = some _ at hq3; change _ = some _ at hq4; change _ = some _ at hq5; change _ = some _ at hq6; change _ = some _ at hq7; go_simp; try with_reducible rfl
      try simp only [Act.put, List.setIfInBounds_toArray, List.set_cons_zero, List.set_cons_succ, List.getElem_toArray, List.getElem_cons_succ, List.getElem_cons_zero]
      refine take_S (v := ?v3) 3 rfl (by kernel_rfl) (by kernel_rfl) (by kernel_rfl) (by kernel_rfl) (fun _ _ _ h => h) hS (fun _ => hT) rfl (fun w' hq => ?h3) ?_
      case h3 => obtain ⟨hq0, hq1, hq2, hq3, hq4, hq5, hq6, hq7, -⟩ := hq; change _ = some _ at hq0; change _ = some _ at hq1; change _ = some _ at hq2; change _ = some _ at hq3; change _ = some _ at hq4; change _ = some _ at hq5; change _ = some _ at hq6; change _ = some _ at hq7; go_simp; try with_reducible rfl
      try simp only [Act.put, List.setIfInBounds_toArray, List.set_cons_zero, List.set_cons_succ, List.getElem_toArray, List.getElem_cons_succ, List.getElem_cons_zero]
      refine take_S (v := ?v4) 4 rfl (by kernel_rfl) (by kernel_rfl) (by kernel_rfl) (by kernel_rfl) (fun _ _ _ h => h) hS (fun _ => hT) rfl (fun w' hq => ?h4) ?_
      case h4 => obtain ⟨hq0, hq1, hq2, hq3, hq4, hq5, hq6, hq7, -⟩ := hq; change _ = some _ at hq0; change _ = some _ at hq1; change _ = some _ at hq2; change _ = some _ at hq3; change _ = some _ at hq4; change _ = some _ at hq5; change _ = some _ at hq6; change _ = some _ at hq7; go_simp; try with_reducible rfl
      try simp only [Act.put, List.setIfInBounds_toArray, List.set_cons_zero, List.set_cons_succ, List.getElem_toArray, List.getElem_cons_succ, List.getElem_cons_zero]
      refine take_S (v := ?v5) 5 rfl (by kernel_rfl) (by kernel_rfl) (by kernel_rfl) (by kernel_rfl) (fun _ _ _ h => h) hS (fun _ => hT) rfl (fun w' hq => ?h5) ?_
      case h5 => obtain ⟨hq0, hq1, hq2, hq3, hq4, hq5, hq6, hq7, -⟩ := hq; change _ = some _ at hq0; change _ = some _ at hq1; change _ = some _ at hq2; change _ = some _ at hq3; change _ = some _ at hq4; change _ = some _ at hq5; change _ = some _ at hq6; change _ = some _ at hq7; go_simp; try with_reducible rfl
      try simp only [Act.put, List.setIfInBounds_toArray, List.set_cons_zero, List.set_cons_succ, List.getElem_toArray, List.getElem_cons_succ, List.getElem_cons_zero]
      refine take_S (v := ?v6) 6 rfl (by kernel_rfl) (by kernel_rfl) (by kernel_rfl) (by kernel_rfl) (fun _ _ _ h => h) hS (fun _ => hT) rfl (fun w' hq => ?h6) ?_
      case h6 => obtain ⟨hq0, hq1, hq2, hq3, hq4, hq5, hq6, hq7, -⟩ := hq; change _ = some _ at hq0; change _ = some _ at hq1; change _ = some _ at hq2; change _ = some _ at hq3; change _ = some _ at hq4; change _ = some _ at hq5; change _ = some _ at hq6; change _ = some _ at hq7; go_simp; try with_reducible rfl
      try simp only [Act.put, List.setIfInBounds_toArray, List.set_cons_zero, List.set_cons_succ, List.getElem_toArray, List.getElem_cons_succ, List.getElem_cons_zero]
      refine take_S (v := ?v7) 7 rfl (by kernel_rfl) (by kernel_rfl) (by kernel_rfl) (by kernel_rfl) (fun _ _ _ h => h) hS (fun _ => hT) rfl (fun w' hq => ?h7) ?_
      case h7 => obtain ⟨hq0, hq1, hq2, hq3, hq4, hq5, hq6, hq7, -⟩ := hq; change _ = some _ at hq0; change _ = some _ at hq1; change _ = some _ at hq2; change _ = some _ at hq3; change _ = some _ at hq4; change _ = some _ at hq5; change _ = some _ at hq6; change _ = some _ at hq7; go_simp; try with_reducible rfl
      try simp only [Act.put, List.setIfInBounds_toArray, List.set_cons_zero, List.set_cons_succ, List.getElem_toArray, List.getElem_cons_succ, List.getElem_cons_zero]
      refine one_D 8 rfl (by kernel_rfl) (fun K hK => ?_)
      go_simp
      refine (ref_Same (S := S) (T := T) (Rd.below Hq.out (by decide) (Hb.out.drew)) (Rd.below Kq.out (by decide) (Hb.out.drew))).mono ?_
      rintro x w1 ⟨rfl, hb1⟩
      rw [sameB_self]
      have g : ∀ b o v, wr.cell? ⟨b, o, none⟩ = some v → w1.cell? ⟨b, o, none⟩ = some v := fun b o v h => (hb1.cell (p := ⟨b, o, none⟩) (lt_of_cell h)).trans h
      have hbw := Hb.out.drew.trans (hb1.mono Hb.out.size)
      have Hbw := Lib.hid hbw
      refine hK.out _ _ ⟨g _ _ _ e0, g _ _ _ e1, g _ _ _ e2, g _ _ _ e3, g _ _ _ f0, g _ _ _ f1, g _ _ _ f2, g _ _ _ f3, trivial⟩ (fun _ => trivial) ?_
      have hS1 : Holds [(b, off + k * 4, .int .u64 es[k].t), (b, off + k * 4 + 1, .int .u32 es[k].c), (b, off + k * 4 + 2, .int .u64 es[k].r), (b, off + k * 4 + 3, .slice sp es[k].cmd.length sc),
          (b', off' + k * 4, .int .u64 es[k].t), (b', off' + k * 4 + 1, .int .u32 es[k].c), (b', off' + k * 4 + 2, .int .u64 es[k].r), (b', off' + k * 4 + 3, .slice sp' es[k].cmd.length sc')] w1 := ⟨g _ _ _ e0, g _ _ _ e1, g _ _ _ e2, g _ _ _ e3, g _ _ _ f0, g _ _ _ f1, g _ _ _ f2, g _ _ _ f3, trivial⟩
      clear hK hS hb1 g hbw
      refine take_S (v := ?v9) 9 rfl (by kernel_rfl) (by kernel_rfl) (by kernel_rfl) (by kernel_rfl) (fun _ _ _ h => h) hS1 (fun _ => trivial) rfl (fun w' hq => ?h9) ?_
      case h9 => obtain ⟨hq0, hq1, hq2, hq3, hq4, hq5, hq6, hq7, -⟩ := hq; change _ = some _ at hq0; change _ = some _ at hq1; change _ = some _ at hq2; change _ = some _ at hq3; change _ = some _ at hq4; change _ = some _ at hq5; change _ = some _ at hq6; change _ = some _ at hq7; go_simp; try with_reducible rfl
      try simp only [Act.put, List.setIfInBounds_toArray, List.set_cons_zero, List.set_cons_succ, List.getElem_toArray, List.getElem_cons_succ, List.getElem_cons_zero]
      refine done_D (by kernel_rfl) ?_ _
      clear hS1
      go_wp2_with fail
      go_roundw
      case rel => exact ⟨k + 1, by omega, by go_num, Hbw.out⟩
      case measure => simp [intOf]; omega
    · obtain rfl : k = es.length := by omega
      go_wp2_with fail
      go_ret
      exact ⟨rfl, Hb.out⟩
end Go.Proofs.Ytgmekodfkhihiaa
