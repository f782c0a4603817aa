/-
  The reference's table: how it lies; right, New, Insert: the contracts. No condition but bounds far below what memory bears. (Printed by wip/gen_reft.py.)
-/
import Derived.Test.YtelaiafpfaohfaaRef05
import Derived.Test.YtelaiafpfaohfaaOrdB
namespace Go.Proofs.Ytelaiafpfaohfaa
open Go.RowKit
set_option linter.unusedSimpArgs false
set_option linter.unusedVariables false

theorem OnsRd.weak {w : World} {S S' : Nat → Prop} {v : Value} {l : List On} (h : OnsRd w S v l) (hs : ∀ k, S k → k < w.heap.size → S' k) : OnsRd w S' v l := Rd.weak h hs (by decide)
theorem one_on {w : World} (p : On) : OnsRd (w.alloc (.cells #[.int .i32 p.c, .bool p.second, .int .i64 p.at_] 70)) (fun _ => True) (.slice (some ⟨w.heap.size, 0, none⟩) 1 1) [p] := by
  refine ⟨rfl, _, _, rfl, Nat.le_refl _, by unfold maxLen; decide, fun _ => ⟨_, 0, rfl, trivial, fun j u hu => ?_⟩⟩
  have hB := Blk.new w 70 #[.int .i32 p.c, .bool p.second, .int .i64 p.at_]
  rw [Nat.zero_add, hB.cell j]
  simpa [ocells, ocell] using hu
/-- A table of the reference: the row, how many were ever inserted. -/
def RfAt (w : World) (S : Nat → Prop) (b : Nat) (r : Rf) : Prop := ∃ v, Blk w b 48 #[v, .int .i64 r.added] ∧ OnsRd w S v r.L ∧ NilOk v
section
variable {w w' : World} {S S' : Nat → Prop} {b : Nat} {r : Rf}
theorem RfAt.weak (h : RfAt w S b r) (hs : ∀ k, S k → k < w.heap.size → S' k) : RfAt w S' b r := by
  obtain ⟨v, hB, hL, hn⟩ := h
  exact ⟨v, hB, hL.weak hs, hn⟩
theorem RfAt.below (h : RfAt w S b r) (hb : Below w.heap.size w w') : RfAt w' S b r := by
  obtain ⟨v, hB, hL, hn⟩ := h
  exact ⟨v, hB.below hb, hL.below hb, hn⟩
theorem RfAt.ext {M : Nat → Prop} (h : RfAt w S b r) (he : Ext M w w') (hm : ∀ k, S k → ¬ M k) (hb : ¬ M b) : RfAt w' S b r := by
  obtain ⟨v, hB, hL, hn⟩ := h
  exact ⟨v, hB.ext he hb, Rd.ext hL he hm (by decide), hn⟩
theorem RfAt.lt (h : RfAt w S b r) : b < w.heap.size := by
  obtain ⟨v, hB, _⟩ := h
  exact hB.lt
theorem RfAt.form (h : RfAt w S b r) : ∃ p c, Blk w b 48 #[.slice p r.L.length c, .int .i64 r.added] ∧ OnsRd w S (.slice p r.L.length c) r.L ∧ NilOk (.slice p r.L.length c) ∧ r.L.length ≤ c ∧ c ≤ maxLen := by
  obtain ⟨v, hB, hL, hn⟩ := h
  obtain ⟨p, c, rfl⟩ := Rd.slice hL
  have hc : r.L.length ≤ c ∧ c ≤ maxLen := by
    obtain ⟨_, _, _, h, h1, h2, _⟩ := hL
    injection h with _ _ h
    subst h
    exact ⟨h1, h2⟩
  exact ⟨p, c, hB, hL, hn, hc.1, hc.2⟩
end

set_option maxHeartbeats 1600000 in
theorem rf_right {w : World} {S : Nat → Prop} {b : Nat} {r : Rf} {pos n : Int} (h : RfAt w S b r) (hl : r.L.length ≤ 1000000) (hp : -9223372036854775808 ≤ pos ∧ pos ≤ 9223372036854775807) (hn : -9223372036854775808 ≤ n ∧ n ≤ 9223372036854775807) :
    Calls Try.prog 39 #[.pointer (some ⟨b, 0, none⟩), .int .i64 pos, .int .i64 n] w fun e w' => e = .returned (.bool (inText r.L.length pos n)) ∧ w = w' := by
  obtain ⟨p, c, hB, -, -, -, -⟩ := h.form
  have a0 : w.cell? ⟨b, 0, none⟩ = some (.slice p r.L.length c) := hB.cell 0
  clear hB h
  generalize r.L.length = long at *
  by_cases h1 : pos < 0
  · have hc : inText long pos n = false := by unfold inText; exact decide_eq_false (fun h => by omega)
    rw [hc]
    go_enter Try.func39, Try.ntmps39
    go_wp2_with fail
    go_ret
    exact ⟨rfl, rfl⟩
  · by_cases h2 : n < 0
    · have hc : inText long pos n = false := by unfold inText; exact decide_eq_false (fun h => by omega)
      rw [hc]
      go_enter Try.func39, Try.ntmps39
      go_wp2_with fail
      go_ret
      exact ⟨rfl, rfl⟩
    · by_cases h3 : (long : Int) < pos
      · have hc : inText long pos n = false := by unfold inText; exact decide_eq_false (fun h => by omega)
        rw [hc]
        go_enter Try.func39, Try.ntmps39
        go_wp2_with fail
        go_ret
        exact ⟨rfl, rfl⟩
      · by_cases h4 : (long : Int) - pos < n
        · have hc : inText long pos n = false := by unfold inText; exact decide_eq_false (fun h => by omega)
          rw [hc]
          go_enter Try.func39, Try.ntmps39
          go_wp2_with fail
          go_ret
          exact ⟨congrArg (fun x => Ending.returned (Value.bool x)) (show decide (n ≤ (long : Int) - pos) = false from decide_eq_false (by omega)), rfl⟩
        · have hc : inText long pos n = true := by unfold inText; exact decide_eq_true (by omega)
          rw [hc]
          go_enter Try.func39, Try.ntmps39
          go_wp2_with fail
          go_ret
          exact ⟨rfl, rfl⟩

/-- A new table of the reference. -/
def RfNew (w : World) (l : List Int) (e : Ending) (w' : World) : Prop := ∃ b, e = .returned (.pointer (some ⟨b, 0, none⟩)) ∧ w.heap.size ≤ b ∧ RfAt w' (fun k => w.heap.size ≤ k ∧ k ≠ b) b (Rf.new l) ∧ Below w.heap.size w w'
theorem firstOns_len (l : List Int) : (firstOns l).length = l.length := by simp [firstOns]
theorem newOns_len (a : Nat) (l : List Int) : (newOns a l).length = l.length := by simp [newOns]
set_option maxHeartbeats 3200000 in
set_option maxRecDepth 100000 in
theorem rf_new {w : World} {S : Nat → Prop} {p : Option Addr} {c : Nat} {l : List Int} (h : CharRd w S (.slice p l.length c) l) (hl : l.length ≤ 100000) :
    Calls Try.prog 11 #[.slice p l.length c] w (RfNew w l) := by
  have H := Lib.hid h
  clear h
  go_enter Try.func11, Try.ntmps11
  go_wp2_with fail
  go_loopw [4] (fun i wr => ∃ k : Nat, k ≤ l.length ∧ i = .int .i64 k ∧ Hid (∃ v, Blk wr w.heap.size 48 #[v, .int .i64 0] ∧ OnsOwn wr (w.heap.size + 1) v ((firstOns l).take k) ∧ Below w.heap.size w wr)) (fun i _ => l.length - (intOf i).toNat)
  case atStart => exact ⟨0, Nat.zero_le _, rfl, Lib.hid ⟨.slice none 0 0, Blk.new _ _ _, World.ownsRow_nil _ _ _ _, (Below.refl _ w).alloc (Nat.le_refl _) _⟩⟩
  case round =>
    obtain ⟨k, hk, rfl, hR⟩ := hrel
    by_cases hlt : k < l.length
    · obtain ⟨v, hB, ho, hX⟩ := hR.out
      obtain ⟨n1, p1, c1, rfl⟩ : ∃ n p c, v = .slice p n c := (by obtain ⟨p, c, h⟩ := own_slice ho; exact ⟨_, p, c, h⟩)
      obtain ⟨bt, ot, he, hlc, et⟩ := CharRd.at (H.out.below hX) hlt
      subst he
      have hk2 : k < (firstOns l).length := by rw [firstOns_len]; exact hlt
      have Hts := Lib.hid (show (firstOns l).take (k + 1) = (firstOns l).take k ++ [⟨l[k], false, k⟩] from by rw [take_snoc _ k hk2]; simp [firstOns])
      have Hlk := Lib.hid (show ((firstOns l).take k).length = k from by rw [List.length_take]; omega)
      have ltb : bt < w.heap.size := by
        obtain ⟨b', o', he, _, _, hc⟩ := Rd.addr H.out (by omega)
        injection he with he
        injection he with he _ _
        subst he
        exact lt_of_cell (hc k (.int .i32 l[k]) (by unfold ccells; rw [List.getElem?_map, List.getElem?_eq_getElem hlt]; rfl))
      generalize l[k]'hlt = x at *
      generalize (firstOns l).take k = out1 at *
      have hb0 : wr.cell? ⟨w.heap.size, 0, none⟩ = some (.slice p1 n1 c1) := hB.cell 0
      have HB := Lib.hid hB
      have HO := Lib.hid ho
      have HX := Lib.hid hX
      have hsz := hB.lt
      clear hB ho hX hR hk2
      go_wp2_with fail
      have hS : Hold1 (bt, ot + k, .int .i32 x) wr.drew := et
      have hT : Hold1 (w.heap.size, 0, .slice p1 n1 c1) wr.drew := hb0
      refine begin_D [15] (by kernel_rfl) hS (fun _ => hT) ?_
      refine take_S (v := ?v0a) 0 rfl (by kernel_rfl) (by kernel_rfl) (by kernel_rfl) (by kernel_rfl) (fun _ _ _ h => h) hS (fun _ => hT) rfl (fun w' hq => ?h0a) ?_
      case h0a => change _ = some _ at hq; go_simp; try with_reducible rfl
      try simp only [Act.put, List.setIfInBounds_toArray, List.set_cons_zero, List.set_cons_succ, List.getElem_toArray, List.getElem_cons_succ, List.getElem_cons_zero]
      refine take_S (v := ?v1a) 1 rfl (by kernel_rfl) (by kernel_rfl) (by kernel_rfl) (by kernel_rfl) (fun _ _ _ h => h) hS (fun _ => hT) rfl (fun w' hq => ?h1a) ?_
      case h1a => change _ = some _ at hq; go_simp; try with_reducible rfl
      try simp only [Act.put, List.setIfInBounds_toArray, List.set_cons_zero, List.set_cons_succ, List.getElem_toArray, List.getElem_cons_succ, List.getElem_cons_zero]
      refine take_S (v := ?v2a) 2 rfl (by kernel_rfl) (by kernel_rfl) (by kernel_rfl) (by kernel_rfl) (fun _ _ _ h => h) hS (fun _ => hT) rfl (fun w' hq => ?h2a) ?_
      case h2a => change _ = some _ at hq; go_simp; try with_reducible rfl
      try simp only [Act.put, List.setIfInBounds_toArray, List.set_cons_zero, List.set_cons_succ, List.getElem_toArray, List.getElem_cons_succ, List.getElem_cons_zero]
      refine take_S (v := ?v3a) 3 rfl (by kernel_rfl) (by kernel_rfl) (by kernel_rfl) (by kernel_rfl) (fun _ _ _ h => h) hS (fun _ => hT) rfl (fun w' hq => ?h3a) ?_
      case h3a => change _ = some _ at hq; go_simp; try with_reducible rfl
      try simp only [Act.put, List.setIfInBounds_toArray, List.set_cons_zero, List.set_cons_succ, List.getElem_toArray, List.getElem_cons_succ, List.getElem_cons_zero]
      refine take_T (v := ?v4a) 4 rfl (by kernel_rfl) (by kernel_rfl) (by kernel_rfl) (by kernel_rfl) (by kernel_rfl) (by kernel_rfl) (fun _ _ _ h => h) hS (fun _ => hT) rfl (fun w' hq hr => ?h4a) ?_
      case h4a => change _ = some _ at hq; change _ = some _ at hr; go_simp; try with_reducible rfl
      try simp only [Act.put, List.setIfInBounds_toArray, List.set_cons_zero, List.set_cons_succ, List.getElem_toArray, List.getElem_cons_succ, List.getElem_cons_zero]
      refine take_S (v := ?v5a) 5 rfl (by kernel_rfl) (by kernel_rfl) (by kernel_rfl) (by kernel_rfl) (fun _ _ _ h => h) hS (fun _ => hT) rfl (fun w' hq => ?h5a) ?_
      case h5a => change _ = some _ at hq; go_simp; try with_reducible rfl
      try simp only [Act.put, List.setIfInBounds_toArray, List.set_cons_zero, List.set_cons_succ, List.getElem_toArray, List.getElem_cons_succ, List.getElem_cons_zero]
      refine take_S (v := ?v6a) 6 rfl (by kernel_rfl) (by kernel_rfl) (by kernel_rfl) (by kernel_rfl) (fun _ _ _ h => h) hS (fun _ => hT) rfl (fun w' hq => ?h6a) ?_
      case h6a => change _ = some _ at hq; go_simp; try with_reducible rfl
      try simp only [Act.put, List.setIfInBounds_toArray, List.set_cons_zero, List.set_cons_succ, List.getElem_toArray, List.getElem_cons_succ, List.getElem_cons_zero]
      refine take_S (v := ?v7a) 7 rfl (by kernel_rfl) (by kernel_rfl) (by kernel_rfl) (by kernel_rfl) (fun _ _ _ h => h) hS (fun _ => hT) rfl (fun w' hq => ?h7a) ?_
      case h7a => change _ = some _ at hq; go_simp; try with_reducible rfl
      try simp only [Act.put, List.setIfInBounds_toArray, List.set_cons_zero, List.set_cons_succ, List.getElem_toArray, List.getElem_cons_succ, List.getElem_cons_zero]
      refine take_S (v := ?v8a) 8 rfl (by kernel_rfl) (by kernel_rfl) (by kernel_rfl) (by kernel_rfl) (fun _ _ _ h => h) hS (fun _ => hT) rfl (fun w' hq => ?h8a) ?_
      case h8a => change _ = some _ at hq; go_simp; try with_reducible rfl
      try simp only [Act.put, List.setIfInBounds_toArray, List.set_cons_zero, List.set_cons_succ, List.getElem_toArray, List.getElem_cons_succ, List.getElem_cons_zero]
      refine take_S (v := ?v9a) 9 rfl (by kernel_rfl) (by kernel_rfl) (by kernel_rfl) (by kernel_rfl) (fun _ _ _ h => h) hS (fun _ => hT) rfl (fun w' hq => ?h9a) ?_
      case h9a => change _ = some _ at hq; go_simp; try with_reducible rfl
      try simp only [Act.put, List.setIfInBounds_toArray, List.set_cons_zero, List.set_cons_succ, List.getElem_toArray, List.getElem_cons_succ, List.getElem_cons_zero]
      refine take_S (v := (.agg #[.int .i32 x, .bool false, .int .i64 (k : Int)])) 10 rfl (by kernel_rfl) (by kernel_rfl) (by kernel_rfl) (by kernel_rfl) (fun _ _ _ h => h) hS (fun _ => hT) rfl (fun w' hq => ?h10a) ?_
      case h10a => change _ = some _ at hq; go_simp; try with_reducible rfl
      try simp only [Act.put, List.setIfInBounds_toArray, List.set_cons_zero, List.set_cons_succ, List.getElem_toArray, List.getElem_cons_succ, List.getElem_cons_zero]
      refine one_D 11 rfl (by kernel_rfl) (fun KQ hK => ?_)
      go_simp
      have hbA := (Below.refl wr.heap.size wr).drew.alloc (Nat.le_refl _) (.cells #[.int .i32 x, .bool false, .int .i64 (k : Int)] 70)
      have hltb := Nat.lt_trans ltb hsz
      have hS1 : Hold1 (bt, ot + k, .int .i32 x) (wr.drew.alloc (.cells #[.int .i32 x, .bool false, .int .i64 (k : Int)] 70)) := (hbA.cell (p := ⟨bt, ot + k, none⟩) hltb).trans et
      have hT1 : Hold1 (w.heap.size, 0, .slice p1 n1 c1) (wr.drew.alloc (.cells #[.int .i32 x, .bool false, .int .i64 (k : Int)] 70)) := (hbA.cell (p := ⟨w.heap.size, 0, none⟩) hsz).trans hb0
      refine hK.out _ _ hS1 (fun _ => hT1) ?_
      clear hK
      have HN := Lib.hid (one_on (w := wr.drew) ⟨x, false, k⟩)
      have HO1 := Lib.hid (show OnsOwn (wr.drew.alloc (.cells #[.int .i32 x, .bool false, .int .i64 (k : Int)] 70)) (w.heap.size + 1) (.slice p1 n1 c1) out1 from own_below HO.out hbA)
      have HB1 := Lib.hid (show Blk (wr.drew.alloc (.cells #[.int .i32 x, .bool false, .int .i64 (k : Int)] 70)) w.heap.size 48 #[.slice p1 n1 c1, .int .i64 0] from HB.out.below hbA)
      have HX1 := Lib.hid (show Below w.heap.size w (wr.drew.alloc (.cells #[.int .i32 x, .bool false, .int .i64 (k : Int)] 70)) from HX.out.trans (hbA.mono HX.out.size))
      refine one_D 12 rfl (by kernel_rfl) (fun KQ hK => ?_)
      refine Eq.mpr (if_pos (by rfl)) ?_
      refine wp_append_O _ _ rfl (w.heap.size + 1) (.slice p1 n1 c1) out1 [⟨x, false, k⟩] (fun _ => True) rfl HO1.out (some ⟨wr.heap.size, 0, none⟩) 1 rfl HN.out NilOk.some (by rw [Hlk.out]; simp; omega) HB1.out.lt ?_
      intro v' w3 ho3 hg3
      have hfar := own_far HO1.out (Nat.lt_succ_self _)
      have hfar2 := own_far HO1.out (Nat.lt_succ_of_lt ltb)
      have hS3 : Hold1 (bt, ot + k, .int .i32 x) w3 := hg3.cell hS1 hfar2
      have hT3 : Hold1 (w.heap.size, 0, .slice p1 n1 c1) w3 := hg3.cell hT1 hfar
      have HB3 := Lib.hid (HB1.out.grown hg3 hfar)
      have HO3 := Lib.hid ho3
      have HX3 := Lib.hid (HX1.out.grown hg3 HX1.out.size (fun j hj => Nat.le_trans (Nat.le_succ _) (HO1.out.lt j hj).1))
      obtain ⟨n3, p3, c3, rfl⟩ : ∃ n p c, v' = .slice p n c := (by obtain ⟨p, c, h⟩ := own_slice ho3; exact ⟨_, p, c, h⟩)
      refine hK.out _ _ hS3 (fun _ => hT3) ?_
      clear hK hg3 ho3 hfar hfar2 hS1 hT1
      have hf0 : w3.frozen? ⟨w.heap.size, 0, none⟩ = false := HB3.out.frozen 0
      have hm0 := hT3
      change _ = some _ at hm0
      refine take_S (v := ?v13b) 13 rfl (by kernel_rfl) (by kernel_rfl) (by kernel_rfl) (by kernel_rfl) (fun _ _ _ h => h) hS3 (fun _ => hT3) rfl (fun w' hq => ?h13b) ?_
      case h13b => change _ = some _ at hq; go_simp; try with_reducible rfl
      try simp only [Act.put, List.setIfInBounds_toArray, List.set_cons_zero, List.set_cons_succ, List.getElem_toArray, List.getElem_cons_succ, List.getElem_cons_zero]
      refine take_S (v := ?v14b) 14 rfl (by kernel_rfl) (by kernel_rfl) (by kernel_rfl) (by kernel_rfl) (fun _ _ _ h => h) hS3 (fun _ => hT3) rfl (fun w' hq => ?h14b) ?_
      case h14b => change _ = some _ at hq; go_simp; try with_reducible rfl
      try simp only [Act.put, List.setIfInBounds_toArray, List.set_cons_zero, List.set_cons_succ, List.getElem_toArray, List.getElem_cons_succ, List.getElem_cons_zero]
      refine one_D 15 rfl (by kernel_rfl) (fun KQ hK => ?_)
      go_simp
      refine hK.out _ _ ((cell_far (w := w3) (b := w.heap.size) (i := 0) (u := .slice p3 n3 c3) (Nat.ne_of_lt ltb)).trans hS3) (fun h => absurd h (by decide)) ?_
      clear hK
      have HB4 := Lib.hid (HB3.out.set_ 0 (.slice p3 n3 c3))
      have HO4 := Lib.hid (own_set HO3.out HB3.out (by decide) 0 (.slice p3 n3 c3))
      have HX4 := Lib.hid (HX3.out.setCell (p := ⟨w.heap.size, 0, none⟩) (Nat.le_refl _) (.slice p3 n3 c3))
      clear hS hT hS3 hT3 hm0 hf0
      refine done_D (by kernel_rfl) ?_ _
      go_wp2_with fail
      go_roundw
      case rel => exact ⟨k + 1, by omega, by go_num, Lib.hid ⟨.slice p3 n3 c3, HB4.out, by rw [Hts.out]; exact HO4.out, HX4.out⟩⟩
      case measure => simp [intOf] <;> omega
    · obtain rfl : k = l.length := by omega
      obtain ⟨v, hB, ho, hX⟩ := hR.out
      rw [List.take_of_length_le (by rw [firstOns_len]; exact Nat.le_refl _)] at ho
      have HB := Lib.hid hB
      have HO := Lib.hid ho
      have HX := Lib.hid hX
      clear hB ho hX hR
      go_wp2_with fail
      go_ret
      exact ⟨_, rfl, Nat.le_refl _, ⟨_, HB.out, Rd.weak HO.out.rd (fun k hk _ => by have := hk.1; constructor <;> omega) (by decide), NilOk.own HO.out⟩, HX.out⟩
end Go.Proofs.Ytelaiafpfaohfaa
