/-
  The reference's Insert and Delete: the contracts. No condition but bounds far below what memory bears. (Printed by wip/gen_refi.py.)
-/
import Derived.Test.YtelaiafpfaohfaaRefT
namespace Go.Proofs.Ytelaiafpfaohfaa
open Go.RowKit
set_option linter.unusedSimpArgs false
set_option linter.unusedVariables false

theorem NilOk.front {p : Option Addr} {n c k : Nat} (h : NilOk (.slice p n c)) : NilOk (.slice p k c) := by
  intro n' c' e
  injection e with e1 e2 e3
  subst e1; subst e3
  exact h _ _ rfl
theorem NilOk.cutq {p q : Option Addr} {n c k c' m : Nat} (h : NilOk (.slice p n c)) (hq : (if c = k then p else p.map (·.add (k * 3))) = q) (hc : c - k = c') : NilOk (.slice q m c') := by
  intro n' c'' e
  injection e with e1 e2 e3
  subst e3
  subst e1
  split at hq
  · omega
  · cases p with
    | none => have := h n c rfl; omega
    | some a => cases hq
/-- A row in two parts. -/
theorem OnsRd.parts {w : World} {S : Nat → Prop} {p q : Option Addr} {c N m c' : Nat} {l1 l2 : List On} (h : OnsRd w S (.slice p N c) (l1 ++ l2)) (hN : N = l1.length + l2.length) (hq : (if c = l1.length then p else p.map (·.add (l1.length * 3))) = q) (hc : c - l1.length = c') (hm : N - l1.length = m) :
    OnsRd w S (.slice p l1.length c) l1 ∧ OnsRd w S (.slice q m c') l2 := by
  subst hN
  subst hm
  have h' : OnsRd w S (.slice p (l1 ++ l2).length c) (l1 ++ l2) := by rw [List.length_append]; exact h
  have h1 := OnsRd.front h' (k := l1.length) (by rw [List.length_append]; omega)
  have h2 := OnsRd.cut h' (k := l1.length) (by rw [List.length_append]; omega)
  rw [List.take_left] at h1
  rw [List.drop_left, hq, hc, List.length_append] at h2
  exact ⟨h1, h2⟩
theorem Ext.grown {M : Nat → Prop} {w w1 w3 : World} {row : Option Nat} (h : Ext M w w1) (hg : w1.grownBy w3 row) (hr : ∀ k, row = some k → w.heap.size ≤ k) : Ext M w w3 :=
  ⟨hg.os.trans h.os, hg.tape.trans h.tape, hg.output.trans h.output, Nat.le_trans h.size hg.size, fun k hk hn => (hg.block k (Nat.lt_of_lt_of_le hk h.size) (fun e => by have := hr k e.symm; omega)).trans (h.block k hk hn)⟩
/-- What a change of the reference's table leaves. -/
def RfDone (w : World) (S : Nat → Prop) (b : Nat) (r : Int × Rf) (e : Ending) (w' : World) : Prop := e = .returned (.int .i64 r.1) ∧ RfAt w' (NewOr S w) b r.2 ∧ Ext (fun k => k = b) w w'
theorem newOns_take {a k : Nat} {l : List Int} (hk : k < l.length) : (newOns a l).take (k + 1) = (newOns a l).take k ++ [⟨l[k], true, a + k⟩] := by
  rw [take_snoc _ k (by rw [newOns_len]; exact hk)]
  simp [newOns]

set_option maxHeartbeats 6400000 in
set_option maxRecDepth 100000 in
theorem rf_ins_in {w : World} {S Sx : Nat → Prop} {b a : Nat} {l1 l2 : List On} {l : List Int} {pl : Option Addr} {cl : Nat} (h : RfAt w S b ⟨l1 ++ l2, a⟩) (hS : ¬ S b) (hx : CharRd w Sx (.slice pl l.length cl) l) (hSx : ¬ Sx b)
    (h1 : l1.length ≤ 100000) (h2 : l2.length ≤ 100000) (hl : l.length ≤ 100000) (ha : a ≤ 100000000) :
    Calls Try.prog 13 #[.pointer (some ⟨b, 0, none⟩), .int .i64 l1.length, .slice pl l.length cl] w (RfDone w S b (0, ⟨l1 ++ newOns a l ++ l2, a + l.length⟩)) := by
  obtain ⟨p, c, hB, hL, hn, hc, hcm⟩ := h.form
  obtain ⟨N, hN⟩ : ∃ N, N = l1.length + l2.length := ⟨_, rfl⟩
  have hLN : (l1 ++ l2).length = N := by rw [List.length_append, hN]
  simp only at hB hL hn hc hcm
  rw [hLN] at hB hL hn hc
  obtain ⟨q, hq⟩ : ∃ q, (if c = l1.length then p else p.map (·.add (l1.length * 3))) = q := ⟨_, rfl⟩
  obtain ⟨c2, hc2⟩ : ∃ c2, c - l1.length = c2 := ⟨_, rfl⟩
  have hm : N - l1.length = l2.length := by omega
  have HL := Lib.hid (OnsRd.parts hL hN hq hc2 hm)
  have Hn1 := Lib.hid (NilOk.front (k := l1.length) hn)
  have Hn2 := Lib.hid (NilOk.cutq (m := l2.length) hn hq hc2)
  have HB := Lib.hid hB
  have Hx := Lib.hid hx
  have hb := hB.lt
  have a0 : w.cell? ⟨b, 0, none⟩ = some (.slice p N c) := hB.cell 0
  have hle : (l1.length : Int) ≤ (N : Int) := by omega
  have hlc : (l1.length : Int) ≤ (c : Int) := by omega
  have hNc : (N : Int) ≤ (c : Int) := by omega
  unfold maxLen at hcm
  have HN := Lib.hid hN
  clear hB hL hn h hx hN hLN
  go_enter Try.func13, Try.ntmps13
  go_wp2_with (at_builtin; go_loud (refine wpList_append_O rfl (.tmp 20) (.tmp 26) rfl w.heap.size (.slice none 0 0) [] l1 S rfl (World.ownsRow_nil _ _ _ _) p c rfl HL.out.1 Hn1.out (by simp; omega) (Nat.le_refl _) ?_; intro v1 w1 ho1 hg1; obtain ⟨n1, p1, c1, rfl⟩ : ∃ n p c, v1 = .slice p n c := (by obtain ⟨p, c, h⟩ := own_slice ho1; exact ⟨_, p, c, h⟩); have HO1 := Lib.hid ho1; have HX1 := Lib.hid ((Below.refl w.heap.size w).grown hg1 (Nat.le_refl _) (fun k hk => by simp [Value.ownBlock] at hk)); clear ho1 hg1))
  go_loopw [7, 8] (fun out i wr => ∃ (k ak n2 : Nat) (p2 : Option Addr) (c2' : Nat), k ≤ l.length ∧ i = .int .i64 k ∧ out = .slice p2 n2 c2' ∧ Hid (ak = a + k) ∧ Hid (Blk wr b 48 #[.slice p N c, .int .i64 (ak : Int)] ∧ OnsOwn wr w.heap.size out (l1 ++ (newOns a l).take k) ∧ Ext (fun k => k = b) w wr)) (fun _ i _ => l.length - (intOf i).toNat)
  case atStart => exact ⟨0, a, _, _, _, Nat.zero_le _, rfl, rfl, Lib.hid rfl, Lib.hid ⟨HB.out.below HX1.out, by simpa using HO1.out, Ext.of_below _ HX1.out⟩⟩
  case round =>
    obtain ⟨k, ak, n2, p2, c2', hk, rfl, rfl, Hak, hR⟩ := hrel
    obtain ⟨hB, ho, hX⟩ := hR.out
    by_cases hlt : k < l.length
    · obtain ⟨bt, ot, he, hlcl, et⟩ := CharRd.at (Rd.ext Hx.out hX (fun j hj he => hSx (he ▸ hj)) (by decide)) hlt
      subst he
      have hbt : bt ≠ b ∧ bt < w.heap.size := by
        obtain ⟨b', o', he, _, hs, hc⟩ := Rd.addr Hx.out (by omega)
        injection he with he
        injection he with he _ _
        subst he
        exact ⟨fun e => hSx (e ▸ hs), lt_of_cell (hc k (.int .i32 l[k]) (by unfold ccells; rw [List.getElem?_map, List.getElem?_eq_getElem hlt]; rfl))⟩
      have Hts := Lib.hid (newOns_take (a := a) hlt)
      have Hlk := Lib.hid (show (l1 ++ (newOns a l).take k).length = l1.length + k from by rw [List.length_append, List.length_take, newOns_len]; omega)
      have Hal := Lib.hid (List.append_assoc l1 ((newOns a l).take k) [⟨l[k], true, a + k⟩])
      generalize l[k]'hlt = x at *
      generalize l1 ++ (newOns a l).take k = out1 at *
      have e0 : wr.cell? ⟨b, 1, none⟩ = some (.int .i64 (ak : Int)) := hB.cell 1
      have HB := Lib.hid hB
      have HO := Lib.hid ho
      have HX := Lib.hid hX
      have hsz := hX.size
      have haki : ak ≤ 1000000000 := by have := Hak.out; omega
      clear hB ho hX hR
      go_wp2_with fail
      have hS : Hold2 (bt, ot + k, .int .i32 x) (b, 1, .int .i64 (ak : Int)) wr.drew := ⟨et, e0⟩
      refine begin_D (T := Hold0) [] (by kernel_rfl) hS (fun _ => trivial) ?_
      refine take_S (v := ?v0a) 0 rfl (by kernel_rfl) (by kernel_rfl) (by kernel_rfl) (by kernel_rfl) (fun _ _ _ h => h) hS (fun _ => trivial) rfl (fun w' hq => ?h0a) ?_
      case h0a => obtain ⟨hq0, hq1⟩ := hq; change _ = some _ at hq0; change _ = some _ at hq1; go_simp; try with_reducible rfl
      try simp only [Act.put, List.setIfInBounds_toArray, List.set_cons_zero, List.set_cons_succ, List.getElem_toArray, List.getElem_cons_succ, List.getElem_cons_zero]
      refine take_S (v := ?v1a) 1 rfl (by kernel_rfl) (by kernel_rfl) (by kernel_rfl) (by kernel_rfl) (fun _ _ _ h => h) hS (fun _ => trivial) rfl (fun w' hq => ?h1a) ?_
      case h1a => obtain ⟨hq0, hq1⟩ := hq; change _ = some _ at hq0; change _ = some _ at hq1; go_simp; try with_reducible rfl
      try simp only [Act.put, List.setIfInBounds_toArray, List.set_cons_zero, List.set_cons_succ, List.getElem_toArray, List.getElem_cons_succ, List.getElem_cons_zero]
      refine take_S (v := ?v2a) 2 rfl (by kernel_rfl) (by kernel_rfl) (by kernel_rfl) (by kernel_rfl) (fun _ _ _ h => h) hS (fun _ => trivial) rfl (fun w' hq => ?h2a) ?_
      case h2a => obtain ⟨hq0, hq1⟩ := hq; change _ = some _ at hq0; change _ = some _ at hq1; go_simp; try with_reducible rfl
      try simp only [Act.put, List.setIfInBounds_toArray, List.set_cons_zero, List.set_cons_succ, List.getElem_toArray, List.getElem_cons_succ, List.getElem_cons_zero]
      refine take_S (v := ?v3a) 3 rfl (by kernel_rfl) (by kernel_rfl) (by kernel_rfl) (by kernel_rfl) (fun _ _ _ h => h) hS (fun _ => trivial) rfl (fun w' hq => ?h3a) ?_
      case h3a => obtain ⟨hq0, hq1⟩ := hq; change _ = some _ at hq0; change _ = some _ at hq1; go_simp; try with_reducible rfl
      try simp only [Act.put, List.setIfInBounds_toArray, List.set_cons_zero, List.set_cons_succ, List.getElem_toArray, List.getElem_cons_succ, List.getElem_cons_zero]
      refine take_S (v := ?v4a) 4 rfl (by kernel_rfl) (by kernel_rfl) (by kernel_rfl) (by kernel_rfl) (fun _ _ _ h => h) hS (fun _ => trivial) rfl (fun w' hq => ?h4a) ?_
      case h4a => obtain ⟨hq0, hq1⟩ := hq; change _ = some _ at hq0; change _ = some _ at hq1; go_simp; try with_reducible rfl
      try simp only [Act.put, List.setIfInBounds_toArray, List.set_cons_zero, List.set_cons_succ, List.getElem_toArray, List.getElem_cons_succ, List.getElem_cons_zero]
      refine take_S (v := ?v5a) 5 rfl (by kernel_rfl) (by kernel_rfl) (by kernel_rfl) (by kernel_rfl) (fun _ _ _ h => h) hS (fun _ => trivial) rfl (fun w' hq => ?h5a) ?_
      case h5a => obtain ⟨hq0, hq1⟩ := hq; change _ = some _ at hq0; change _ = some _ at hq1; go_simp; try with_reducible rfl
      try simp only [Act.put, List.setIfInBounds_toArray, List.set_cons_zero, List.set_cons_succ, List.getElem_toArray, List.getElem_cons_succ, List.getElem_cons_zero]
      refine take_S (v := ?v6a) 6 rfl (by kernel_rfl) (by kernel_rfl) (by kernel_rfl) (by kernel_rfl) (fun _ _ _ h => h) hS (fun _ => trivial) rfl (fun w' hq => ?h6a) ?_
      case h6a => obtain ⟨hq0, hq1⟩ := hq; change _ = some _ at hq0; change _ = some _ at hq1; go_simp; try with_reducible rfl
      try simp only [Act.put, List.setIfInBounds_toArray, List.set_cons_zero, List.set_cons_succ, List.getElem_toArray, List.getElem_cons_succ, List.getElem_cons_zero]
      refine take_S (v := ?v7a) 7 rfl (by kernel_rfl) (by kernel_rfl) (by kernel_rfl) (by kernel_rfl) (fun _ _ _ h => h) hS (fun _ => trivial) rfl (fun w' hq => ?h7a) ?_
      case h7a => obtain ⟨hq0, hq1⟩ := hq; change _ = some _ at hq0; change _ = some _ at hq1; go_simp; try with_reducible rfl
      try simp only [Act.put, List.setIfInBounds_toArray, List.set_cons_zero, List.set_cons_succ, List.getElem_toArray, List.getElem_cons_succ, List.getElem_cons_zero]
      refine take_S (v := ?v8a) 8 rfl (by kernel_rfl) (by kernel_rfl) (by kernel_rfl) (by kernel_rfl) (fun _ _ _ h => h) hS (fun _ => trivial) rfl (fun w' hq => ?h8a) ?_
      case h8a => obtain ⟨hq0, hq1⟩ := hq; change _ = some _ at hq0; change _ = some _ at hq1; go_simp; try with_reducible rfl
      try simp only [Act.put, List.setIfInBounds_toArray, List.set_cons_zero, List.set_cons_succ, List.getElem_toArray, List.getElem_cons_succ, List.getElem_cons_zero]
      refine take_S (v := (.agg #[.int .i32 x, .bool true, .int .i64 (ak : Int)])) 9 rfl (by kernel_rfl) (by kernel_rfl) (by kernel_rfl) (by kernel_rfl) (fun _ _ _ h => h) hS (fun _ => trivial) rfl (fun w' hq => ?h9a) ?_
      case h9a => obtain ⟨hq0, hq1⟩ := hq; change _ = some _ at hq0; change _ = some _ at hq1; go_simp; try with_reducible rfl
      try simp only [Act.put, List.setIfInBounds_toArray, List.set_cons_zero, List.set_cons_succ, List.getElem_toArray, List.getElem_cons_succ, List.getElem_cons_zero]
      refine one_D 10 rfl (by kernel_rfl) (fun KQ hK => ?_)
      go_simp
      have hbA := (Below.refl wr.heap.size wr).drew.alloc (Nat.le_refl _) (.cells #[.int .i32 x, .bool true, .int .i64 (ak : Int)] 70)
      have hbw : b < wr.heap.size := Nat.lt_of_lt_of_le hb hsz
      have hS1 : Hold2 (bt, ot + k, .int .i32 x) (b, 1, .int .i64 (ak : Int)) (wr.drew.alloc (.cells #[.int .i32 x, .bool true, .int .i64 (ak : Int)] 70)) := ⟨(hbA.cell (p := ⟨bt, ot + k, none⟩) (Nat.lt_of_lt_of_le hbt.2 hsz)).trans et, (hbA.cell (p := ⟨b, 1, none⟩) hbw).trans e0⟩
      refine hK.out _ _ hS1 (fun _ => trivial) ?_
      clear hK
      have HN1 := Lib.hid (one_on (w := wr.drew) ⟨x, true, ak⟩)
      have HO1 := Lib.hid (show OnsOwn (wr.drew.alloc (.cells #[.int .i32 x, .bool true, .int .i64 (ak : Int)] 70)) w.heap.size (.slice p2 n2 c2') out1 from own_below HO.out hbA)
      have HB1 := Lib.hid (show Blk (wr.drew.alloc (.cells #[.int .i32 x, .bool true, .int .i64 (ak : Int)] 70)) b 48 #[.slice p N c, .int .i64 (ak : Int)] from HB.out.below hbA)
      have HX1' := Lib.hid (show Ext (fun k => k = b) w (wr.drew.alloc (.cells #[.int .i32 x, .bool true, .int .i64 (ak : Int)] 70)) from HX.out.trans (Ext.of_below _ hbA))
      refine one_D 11 rfl (by kernel_rfl) (fun KQ hK => ?_)
      refine Eq.mpr (if_pos (by rfl)) ?_
      refine wp_append_O _ _ rfl w.heap.size (.slice p2 n2 c2') out1 [⟨x, true, ak⟩] (fun _ => True) rfl HO1.out (some ⟨wr.heap.size, 0, none⟩) 1 rfl HN1.out NilOk.some (by rw [Hlk.out]; simp; omega) (Nat.le_of_lt (Nat.lt_of_le_of_lt (Nat.zero_le _) HB1.out.lt) |> fun _ => HX1'.out.size) ?_
      intro v' w3 ho3 hg3
      have hfar := own_far HO1.out hb
      have hfar2 := own_far HO1.out hbt.2
      have hS3 : Hold2 (bt, ot + k, .int .i32 x) (b, 1, .int .i64 (ak : Int)) w3 := ⟨hg3.cell hS1.1 hfar2, hg3.cell hS1.2 hfar⟩
      have HB3 := Lib.hid (HB1.out.grown hg3 hfar)
      have HO3 := Lib.hid ho3
      have HX3 := Lib.hid (show Ext (fun k => k = b) w w3 from HX1'.out.grown hg3 (fun j hj => (HO1.out.lt j hj).1))
      obtain ⟨n3, p3, c3, rfl⟩ : ∃ n p c, v' = .slice p n c := (by obtain ⟨p, c, h⟩ := own_slice ho3; exact ⟨_, p, c, h⟩)
      refine hK.out _ _ hS3 (fun _ => trivial) ?_
      clear hK hg3 ho3 hfar hfar2 hS1
      refine take_S (v := ?v12b) 12 rfl (by kernel_rfl) (by kernel_rfl) (by kernel_rfl) (by kernel_rfl) (fun _ _ _ h => h) hS3 (fun _ => trivial) rfl (fun w' hq => ?h12b) ?_
      case h12b => obtain ⟨hq0, hq1⟩ := hq; change _ = some _ at hq0; change _ = some _ at hq1; go_simp; try with_reducible rfl
      try simp only [Act.put, List.setIfInBounds_toArray, List.set_cons_zero, List.set_cons_succ, List.getElem_toArray, List.getElem_cons_succ, List.getElem_cons_zero]
      refine done_D (by kernel_rfl) ?_ _
      have e1 : w3.cell? ⟨b, 1, none⟩ = some (.int .i64 (ak : Int)) := hS3.2
      have f1 : w3.frozen? ⟨b, 1, none⟩ = false := HB3.out.frozen 1
      obtain ⟨ak1, hak1⟩ : ∃ n, n = ak + 1 := ⟨_, rfl⟩
      have hw1 : IntKind.i64.wrap ((ak : Int) + 1) = (ak1 : Int) := by rw [IntKind.wrap_i64]; omega
      have HB4 := Lib.hid (HB3.out.set_ 1 (.int .i64 (ak1 : Int)))
      have HO4 := Lib.hid (own_set HO3.out HB3.out (by decide) 1 (.int .i64 (ak1 : Int)))
      have HX4 := Lib.hid (HX3.out.set1 (g := b) (i := 1) (a := .int .i64 (ak1 : Int)) rfl)
      have Hak1 := Lib.hid hak1
      clear hS hS3 hak1
      go_wp2_with fail
      go_roundw
      case rel => exact ⟨k + 1, ak1, n3, p3, c3, by omega, by go_num, rfl, Lib.hid (by rw [Hak1.out, Hak.out]; omega), Lib.hid ⟨HB4.out, by rw [Hts.out, ← Hal.out, ← Hak.out]; exact HO4.out, HX4.out⟩⟩
      case measure => simp [intOf] <;> omega
    · obtain rfl : k = l.length := by omega
      rw [List.take_of_length_le (by rw [newOns_len]; exact Nat.le_refl _)] at ho
      have HB := Lib.hid hB
      have HO := Lib.hid ho
      have HX := Lib.hid hX
      have Hlk := Lib.hid (show (l1 ++ newOns a l).length = l1.length + l.length from by rw [List.length_append, newOns_len])
      have HL2 := Lib.hid (Rd.ext HL.out.2 hX (fun j hj he => hS (he ▸ hj)) (by decide))
      have e0 : wr.cell? ⟨b, 0, none⟩ = some (.slice p N c) := hB.cell 0
      generalize l1 ++ newOns a l = out1 at *
      clear hB ho hX hR
      go_wp2_with (at_builtin; go_loud (refine wpList_append_O rfl (.tmp 54) (.tmp 60) rfl w.heap.size (.slice p2 n2 c2') out1 l2 S rfl HO.out q c2 rfl HL2.out Hn2.out (by rw [Hlk.out]; omega) HX.out.size ?_; intro v4 w4 ho4 hg4; obtain ⟨n4, p4, c4, rfl⟩ : ∃ n p c, v4 = .slice p n c := (by obtain ⟨p, c, h⟩ := own_slice ho4; exact ⟨_, p, c, h⟩); have HO4 := Lib.hid ho4; have HX4 := Lib.hid (HX.out.grown hg4 (fun j hj => (HO.out.lt j hj).1)); have HB4 := Lib.hid (HB.out.grown hg4 (own_far HO.out hb)); have g0 : w4.cell? ⟨b, 0, none⟩ = some (.slice p N c) := HB4.out.cell 0; have g1 : w4.frozen? ⟨b, 0, none⟩ = false := HB4.out.frozen 0; clear ho4 hg4))
      go_ret
      have hB5 := HB4.out.set_ 0 (.slice p4 n4 c4)
      have hO5 := own_set HO4.out HB4.out (by decide) 0 (.slice p4 n4 c4)
      have hX5 := HX4.out.set1 (g := b) (i := 0) (a := .slice p4 n4 c4) rfl
      refine ⟨rfl, ⟨_, by rw [Hak.out] at hB5; exact hB5, Rd.weak (Rd.of_own hO5) (fun k hk _ => .inr hk.1) (by decide), NilOk.own hO5⟩, hX5⟩

theorem rf_ins_no {w : World} {S : Nat → Prop} {b : Nat} {r : Rf} {pos : Int} {v : Value} (h : RfAt w S b r) (hl : r.L.length ≤ 1000000) (hp : ¬ (0 ≤ pos ∧ pos ≤ (r.L.length : Int))) :
    Calls Try.prog 13 #[.pointer (some ⟨b, 0, none⟩), .int .i64 pos, v] w fun e w' => e = .returned (.int .i64 30) ∧ w = w' := by
  obtain ⟨p, c, hB, -, -, -, -⟩ := h.form
  have a0 : w.cell? ⟨b, 0, none⟩ = some (.slice p r.L.length c) := hB.cell 0
  clear hB h
  generalize r.L.length = long at *
  by_cases h1 : pos < 0
  · go_enter Try.func13, Try.ntmps13
    go_wp2_with fail
    go_ret
    exact ⟨rfl, rfl⟩
  · have h2 : (long : Int) < pos := by omega
    go_enter Try.func13, Try.ntmps13
    go_wp2_with fail
    go_ret
    exact ⟨rfl, rfl⟩

theorem rf_del_no {w : World} {S : Nat → Prop} {b : Nat} {r : Rf} {pos n : Int} (h : RfAt w S b r) (hl : r.L.length ≤ 1000000) (hp : -9223372036854775808 ≤ pos ∧ pos ≤ 9223372036854775807) (hn : -9223372036854775808 ≤ n ∧ n ≤ 9223372036854775807) (hi : inText r.L.length pos n = false) :
    Calls Try.prog 15 #[.pointer (some ⟨b, 0, none⟩), .int .i64 pos, .int .i64 n] w fun e w' => e = .returned (.int .i64 30) ∧ w = w' := by
  have hr := rf_right h hl hp hn
  rw [hi] at hr
  have Hr := Lib.hid hr
  clear hr h
  go_enter Try.func15, Try.ntmps15
  go_wp2_with fail
  refine Hr.out.mono ?_
  rintro e w' ⟨rfl, rfl⟩
  go_wp2_with fail
  go_ret
  exact ⟨rfl, rfl⟩

theorem rf_ins {w : World} {S Sx : Nat → Prop} {b : Nat} {r : Rf} {l : List Int} {pl : Option Addr} {cl : Nat} {pos : Int} (h : RfAt w S b r) (hS : ¬ S b) (hx : CharRd w Sx (.slice pl l.length cl) l) (hSx : ¬ Sx b)
    (h1 : r.L.length ≤ 100000) (hl : l.length ≤ 100000) (ha : r.added ≤ 100000000) :
    Calls Try.prog 13 #[.pointer (some ⟨b, 0, none⟩), .int .i64 pos, .slice pl l.length cl] w (RfDone w S b (r.ins pos l)) := by
  by_cases hp : 0 ≤ pos ∧ pos ≤ (r.L.length : Int)
  · obtain ⟨L, a⟩ := r
    obtain ⟨l1, l2, hL, hpos⟩ : ∃ l1 l2, L = l1 ++ l2 ∧ pos = (l1.length : Int) := ⟨L.take pos.toNat, L.drop pos.toNat, (List.take_append_drop _ _).symm, by simp at hp; rw [List.length_take]; omega⟩
    subst hL
    subst hpos
    simp only [List.length_append] at h1
    have e : Rf.ins ⟨l1 ++ l2, a⟩ (l1.length : Int) l = (0, ⟨l1 ++ newOns a l ++ l2, a + l.length⟩) := by
      unfold Rf.ins
      rw [if_pos hp]
      simp
    rw [e]
    exact rf_ins_in h hS hx hSx (by omega) (by omega) hl ha
  · rw [show r.ins pos l = (30, r) from if_neg hp]
    refine (rf_ins_no h (by omega) hp).mono ?_
    rintro e w' ⟨rfl, rfl⟩
    exact ⟨rfl, h.weak (fun _ h _ => .inl h), Ext.refl _ _⟩
end Go.Proofs.Ytelaiafpfaohfaa
