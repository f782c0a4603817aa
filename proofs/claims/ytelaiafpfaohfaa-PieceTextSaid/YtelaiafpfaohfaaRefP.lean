/-
  The reference's Pieces; the law's same: the contracts. No condition but bounds far below what memory bears. (Printed by wip/gen_refp.py.)
-/
import Derived.Test.YtelaiafpfaohfaaRefR
namespace Go.Proofs.Ytelaiafpfaohfaa
open Go.RowKit
set_option linter.unusedSimpArgs false
set_option linter.unusedVariables false

def ofOn (x : On) : Bool × Nat := (x.second, x.at_)
theorem normL_snoc (xs : List (Bool × Nat)) (x : Bool × Nat) : normL (xs ++ [x]) = putL (normL xs) ⟨x.1, x.2, 1⟩ := by
  unfold normL
  rw [List.map_append, List.foldl_append]
  rfl
theorem normL_length (xs : List (Bool × Nat)) : (normL xs).length ≤ xs.length := by
  have := fold_len (xs.map unitOf) []
  simpa [normL] using this
theorem normL_ok : ∀ {xs : List (Bool × Nat)}, (∀ x ∈ xs, x.2 < 70368744177664) → PcsOk (normL xs) := by
  intro xs h
  refine fold_ok _ [] (fun _ h => by cases h) fun p hp => ?_
  obtain ⟨x, hx, rfl⟩ := List.mem_map.1 hp
  have := h x hx
  show x.2 + 1 ≤ _
  omega
/-- What Pieces of the reference leaves. -/
def RfPieces (w : World) (l : List Pc) (e : Ending) (w' : World) : Prop := ∃ v, e = .returned v ∧ RpcOwn w' w.heap.size v l ∧ Below w.heap.size w w'
theorem one_rpc {w : World} (p : Pc) : PcsRd (w.alloc (.cells #[.bool p.second, .int .i64 p.at_, .int .i64 p.len] 77)) (fun _ => True) (.slice (some ⟨w.heap.size, 0, none⟩) 1 1) [p] := by
  refine ⟨rfl, _, _, rfl, Nat.le_refl _, by unfold maxLen; decide, fun _ => ⟨_, 0, rfl, trivial, fun j u hu => ?_⟩⟩
  have hB := Blk.new w 77 #[.bool p.second, .int .i64 p.at_, .int .i64 p.len]
  rw [Nat.zero_add, hB.cell j]
  simpa [pcells, pcell] using hu

/-- What one round of Pieces asks and leaves. -/
def RndRel (w : World) (b N c ad : Nat) (p : Option Addr) (L : List On) (k : Nat) (out : Value) (wr : World) : Prop :=
  Blk wr b 48 #[.slice p N c, .int .i64 (ad : Int)] ∧ RpcOwn wr w.heap.size out (normL ((L.take k).map ofOn)) ∧ Below w.heap.size w wr

set_option maxHeartbeats 12800000 in
set_option maxRecDepth 100000 in
theorem rf_pieces {w : World} {S : Nat → Prop} {b : Nat} {r : Rf} (h : RfAt w S b r) (hl : r.L.length ≤ 100000) (hat : ∀ x ∈ r.L, x.at_ < 1000000000) :
    Calls Try.prog 27 #[.pointer (some ⟨b, 0, none⟩)] w (RfPieces w r.pieces) := by
  obtain ⟨p, c, hB, hL, hn, hc, hcm⟩ := h.form
  obtain ⟨L, ad⟩ := r
  simp only at hB hL hn hc hcm hl hat
  have hb := hB.lt
  have HB := Lib.hid hB
  have HL := Lib.hid hL
  have Hat := Lib.hid hat
  unfold maxLen at hcm
  have hncc : (L.length : Int) ≤ (c : Int) := by omega
  clear hB hL hn h hat
  go_enter Try.func27, Try.ntmps27
  go_wp2_with fail
  go_loopw [3, 4] (fun out i wr => ∃ (k n2 : Nat) (p2 : Option Addr) (c2 : Nat), k ≤ L.length ∧ out = .slice p2 n2 c2 ∧ i = .int .i64 k ∧ Hid (RndRel w b L.length c ad p L k (.slice p2 n2 c2) wr)) (fun _ i _ => L.length - (intOf i).toNat)
  case atStart => exact ⟨0, 0, none, 0, Nat.zero_le _, rfl, rfl, Lib.hid ⟨HB.out, World.ownsRow_nil _ _ _ _, Below.refl _ _⟩⟩
  case round =>
    obtain ⟨k, n2, p2, c2, hk, rfl, rfl, hR⟩ := hrel
    obtain ⟨hBr, ho, hX⟩ := hR.out
    have a0 : wr.cell? ⟨b, 0, none⟩ = some (.slice p L.length c) := hBr.cell 0
    by_cases hlt : k < L.length
    · obtain ⟨b2, off, he, _, _, hcell⟩ := Rd.addr HL.out (by omega)
      subst he
      obtain ⟨x0, x1, x2⟩ := on_at hlt
      have x0 : w.cell? ⟨b2, off + k * 3, none⟩ = some (.int .i32 L[k].c) := hcell _ _ x0
      have x1 : w.cell? ⟨b2, off + k * 3 + 1, none⟩ = some (.bool L[k].second) := hcell _ _ x1
      have x2 : w.cell? ⟨b2, off + k * 3 + 2, none⟩ = some (.int .i64 L[k].at_) := hcell _ _ x2
      have ltb := lt_of_cell x0
      obtain ⟨hc', -⟩ := bcell hX
      rw [← hc' b2 _ ltb] at x0 x1 x2
      have hsz := hX.size
      have Hts := Lib.hid (show normL ((L.take (k + 1)).map ofOn) = putL (normL ((L.take k).map ofOn)) ⟨L[k].second, L[k].at_, 1⟩ from by
        rw [take_snoc _ _ hlt, List.map_append, List.map_cons, List.map_nil, normL_snoc]
        rfl)
      have hx9 : L[k].at_ < 1000000000 := Hat.out _ (List.getElem_mem hlt)
      have hol : (normL ((L.take k).map ofOn)).length ≤ 100000 := by
        have := normL_length ((L.take k).map ofOn)
        rw [List.length_map, List.length_take] at this
        omega
      have Hok := Lib.hid (normL_ok (xs := (L.take k).map ofOn) (by
        intro x hx
        obtain ⟨y, hy, rfl⟩ := List.mem_map.1 hx
        have := Hat.out y (List.mem_of_mem_take hy)
        show y.at_ < _
        omega))
      generalize L[k]'hlt = x at *
      obtain ⟨ch, s, at_⟩ := x
      simp only at x0 x1 x2 Hts hx9
      generalize normL ((L.take k).map ofOn) = out1 at *
      have hnn : n2 = out1.length := by
        rcases ho.2 with ⟨h1, h2⟩ | ⟨g, cap, cur, h1, _⟩
        · injection h1 with _ h1 _; omega
        · injection h1 with _ h1 _
      have Hnn := Lib.hid hnn
      have hCELL := (Below.refl wr.heap.size wr).alloc (Nat.le_refl _) (.cells #[.int .i32 ch, .bool s, .int .i64 at_] 70)
      have HBW := Lib.hid (hBr.below hCELL)
      have HO := Lib.hid (own_below ho hCELL)
      have HXW := Lib.hid (hX.trans (hCELL.mono hsz))
      have HG := Lib.hid (Blk.new wr 70 #[.int .i32 ch, .bool s, .int .i64 at_])
      obtain ⟨_, g1, g2, -, -, -, -⟩ := HG.out.c3
      clear hBr ho hX hR hcell hc' hnn hCELL
      have hsplit : out1 = [] ∨ ∃ l z, out1 = l ++ [z] := by
        rcases List.eq_nil_or_concat out1 with h | ⟨l, z, h⟩
        · exact .inl h
        · exact .inr ⟨l, z, by rw [h, List.concat_eq_append]⟩
      rcases hsplit with rfl | ⟨l, z, rfl⟩
      · obtain rfl : n2 = 0 := by have := Hnn.out; simpa using this
        have Hput := Lib.hid (show putL [] ⟨s, at_, 1⟩ = [] ++ [(⟨s, at_, 1⟩ : Pc)] from rfl)
        go_wp2_with fail
        generalize hWg : wr.alloc (.cells #[.int .i32 ch, .bool s, .int .i64 at_] 70) = W at *
        clear hWg
        have hS : Hold0 W.drew := trivial
        refine begin_D (T := Hold0) [] (by kernel_rfl) hS (fun _ => trivial) ?_
        refine take_S (v := ?v0a) 0 rfl (by kernel_rfl) (by kernel_rfl) (by kernel_rfl) (by kernel_rfl) (fun _ _ _ h => h) hS (fun _ => trivial) rfl (fun w' hq => ?h0a) ?_
        case h0a => go_simp; all_goals (try with_reducible rfl)
        try simp only [Act.put, List.setIfInBounds_toArray, List.set_cons_zero, List.set_cons_succ, List.getElem_toArray, List.getElem_cons_succ, List.getElem_cons_zero]
        refine take_S (v := ?v1a) 1 rfl (by kernel_rfl) (by kernel_rfl) (by kernel_rfl) (by kernel_rfl) (fun _ _ _ h => h) hS (fun _ => trivial) rfl (fun w' hq => ?h1a) ?_
        case h1a => go_simp; all_goals (try with_reducible rfl)
        try simp only [Act.put, List.setIfInBounds_toArray, List.set_cons_zero, List.set_cons_succ, List.getElem_toArray, List.getElem_cons_succ, List.getElem_cons_zero]
        refine take_S (v := ?v2a) 2 rfl (by kernel_rfl) (by kernel_rfl) (by kernel_rfl) (by kernel_rfl) (fun _ _ _ h => h) hS (fun _ => trivial) rfl (fun w' hq => ?h2a) ?_
        case h2a => go_simp; all_goals (try with_reducible rfl)
        try simp only [Act.put, List.setIfInBounds_toArray, List.set_cons_zero, List.set_cons_succ, List.getElem_toArray, List.getElem_cons_succ, List.getElem_cons_zero]
        refine take_no 3 rfl (by kernel_rfl) (by kernel_rfl) (by kernel_rfl) (by kernel_rfl) (fun _ _ _ h => h) hS (fun _ => trivial) rfl ?_
        try simp only [Act.put, List.setIfInBounds_toArray, List.set_cons_zero, List.set_cons_succ, List.getElem_toArray, List.getElem_cons_succ, List.getElem_cons_zero]
        refine take_no 4 rfl (by kernel_rfl) (by kernel_rfl) (by kernel_rfl) (by kernel_rfl) (fun _ _ _ h => h) hS (fun _ => trivial) rfl ?_
        try simp only [Act.put, List.setIfInBounds_toArray, List.set_cons_zero, List.set_cons_succ, List.getElem_toArray, List.getElem_cons_succ, List.getElem_cons_zero]
        refine take_no 5 rfl (by kernel_rfl) (by kernel_rfl) (by kernel_rfl) (by kernel_rfl) (fun _ _ _ h => h) hS (fun _ => trivial) rfl ?_
        try simp only [Act.put, List.setIfInBounds_toArray, List.set_cons_zero, List.set_cons_succ, List.getElem_toArray, List.getElem_cons_succ, List.getElem_cons_zero]
        refine take_no 6 rfl (by kernel_rfl) (by kernel_rfl) (by kernel_rfl) (by kernel_rfl) (fun _ _ _ h => h) hS (fun _ => trivial) rfl ?_
        try simp only [Act.put, List.setIfInBounds_toArray, List.set_cons_zero, List.set_cons_succ, List.getElem_toArray, List.getElem_cons_succ, List.getElem_cons_zero]
        refine take_no 7 rfl (by kernel_rfl) (by kernel_rfl) (by kernel_rfl) (by kernel_rfl) (fun _ _ _ h => h) hS (fun _ => trivial) rfl ?_
        try simp only [Act.put, List.setIfInBounds_toArray, List.set_cons_zero, List.set_cons_succ, List.getElem_toArray, List.getElem_cons_succ, List.getElem_cons_zero]
        refine take_no 8 rfl (by kernel_rfl) (by kernel_rfl) (by kernel_rfl) (by kernel_rfl) (fun _ _ _ h => h) hS (fun _ => trivial) rfl ?_
        try simp only [Act.put, List.setIfInBounds_toArray, List.set_cons_zero, List.set_cons_succ, List.getElem_toArray, List.getElem_cons_succ, List.getElem_cons_zero]
        refine take_no 9 rfl (by kernel_rfl) (by kernel_rfl) (by kernel_rfl) (by kernel_rfl) (fun _ _ _ h => h) hS (fun _ => trivial) rfl ?_
        try simp only [Act.put, List.setIfInBounds_toArray, List.set_cons_zero, List.set_cons_succ, List.getElem_toArray, List.getElem_cons_succ, List.getElem_cons_zero]
        refine take_no 10 rfl (by kernel_rfl) (by kernel_rfl) (by kernel_rfl) (by kernel_rfl) (fun _ _ _ h => h) hS (fun _ => trivial) rfl ?_
        try simp only [Act.put, List.setIfInBounds_toArray, List.set_cons_zero, List.set_cons_succ, List.getElem_toArray, List.getElem_cons_succ, List.getElem_cons_zero]
        refine take_no 11 rfl (by kernel_rfl) (by kernel_rfl) (by kernel_rfl) (by kernel_rfl) (fun _ _ _ h => h) hS (fun _ => trivial) rfl ?_
        try simp only [Act.put, List.setIfInBounds_toArray, List.set_cons_zero, List.set_cons_succ, List.getElem_toArray, List.getElem_cons_succ, List.getElem_cons_zero]
        refine take_S (v := ?v12a) 12 rfl (by kernel_rfl) (by kernel_rfl) (by kernel_rfl) (by kernel_rfl) (fun _ _ _ h => h) hS (fun _ => trivial) rfl (fun w' hq => ?h12a) ?_
        case h12a => go_simp; all_goals (try with_reducible rfl)
        try simp only [Act.put, List.setIfInBounds_toArray, List.set_cons_zero, List.set_cons_succ, List.getElem_toArray, List.getElem_cons_succ, List.getElem_cons_zero]
        refine take_S (v := ?v13a) 13 rfl (by kernel_rfl) (by kernel_rfl) (by kernel_rfl) (by kernel_rfl) (fun _ _ _ h => h) hS (fun _ => trivial) rfl (fun w' hq => ?h13a) ?_
        case h13a => go_simp; all_goals (try with_reducible rfl)
        try simp only [Act.put, List.setIfInBounds_toArray, List.set_cons_zero, List.set_cons_succ, List.getElem_toArray, List.getElem_cons_succ, List.getElem_cons_zero]
        refine take_no 14 rfl (by kernel_rfl) (by kernel_rfl) (by kernel_rfl) (by kernel_rfl) (fun _ _ _ h => h) hS (fun _ => trivial) rfl ?_
        try simp only [Act.put, List.setIfInBounds_toArray, List.set_cons_zero, List.set_cons_succ, List.getElem_toArray, List.getElem_cons_succ, List.getElem_cons_zero]
        refine take_no 15 rfl (by kernel_rfl) (by kernel_rfl) (by kernel_rfl) (by kernel_rfl) (fun _ _ _ h => h) hS (fun _ => trivial) rfl ?_
        try simp only [Act.put, List.setIfInBounds_toArray, List.set_cons_zero, List.set_cons_succ, List.getElem_toArray, List.getElem_cons_succ, List.getElem_cons_zero]
        refine take_no 16 rfl (by kernel_rfl) (by kernel_rfl) (by kernel_rfl) (by kernel_rfl) (fun _ _ _ h => h) hS (fun _ => trivial) rfl ?_
        try simp only [Act.put, List.setIfInBounds_toArray, List.set_cons_zero, List.set_cons_succ, List.getElem_toArray, List.getElem_cons_succ, List.getElem_cons_zero]
        refine take_no 17 rfl (by kernel_rfl) (by kernel_rfl) (by kernel_rfl) (by kernel_rfl) (fun _ _ _ h => h) hS (fun _ => trivial) rfl ?_
        try simp only [Act.put, List.setIfInBounds_toArray, List.set_cons_zero, List.set_cons_succ, List.getElem_toArray, List.getElem_cons_succ, List.getElem_cons_zero]
        refine take_no 18 rfl (by kernel_rfl) (by kernel_rfl) (by kernel_rfl) (by kernel_rfl) (fun _ _ _ h => h) hS (fun _ => trivial) rfl ?_
        try simp only [Act.put, List.setIfInBounds_toArray, List.set_cons_zero, List.set_cons_succ, List.getElem_toArray, List.getElem_cons_succ, List.getElem_cons_zero]
        refine take_no 19 rfl (by kernel_rfl) (by kernel_rfl) (by kernel_rfl) (by kernel_rfl) (fun _ _ _ h => h) hS (fun _ => trivial) rfl ?_
        try simp only [Act.put, List.setIfInBounds_toArray, List.set_cons_zero, List.set_cons_succ, List.getElem_toArray, List.getElem_cons_succ, List.getElem_cons_zero]
        refine take_no 20 rfl (by kernel_rfl) (by kernel_rfl) (by kernel_rfl) (by kernel_rfl) (fun _ _ _ h => h) hS (fun _ => trivial) rfl ?_
        try simp only [Act.put, List.setIfInBounds_toArray, List.set_cons_zero, List.set_cons_succ, List.getElem_toArray, List.getElem_cons_succ, List.getElem_cons_zero]
        refine take_no 21 rfl (by kernel_rfl) (by kernel_rfl) (by kernel_rfl) (by kernel_rfl) (fun _ _ _ h => h) hS (fun _ => trivial) rfl ?_
        try simp only [Act.put, List.setIfInBounds_toArray, List.set_cons_zero, List.set_cons_succ, List.getElem_toArray, List.getElem_cons_succ, List.getElem_cons_zero]
        refine take_no 22 rfl (by kernel_rfl) (by kernel_rfl) (by kernel_rfl) (by kernel_rfl) (fun _ _ _ h => h) hS (fun _ => trivial) rfl ?_
        try simp only [Act.put, List.setIfInBounds_toArray, List.set_cons_zero, List.set_cons_succ, List.getElem_toArray, List.getElem_cons_succ, List.getElem_cons_zero]
        refine take_no 23 rfl (by kernel_rfl) (by kernel_rfl) (by kernel_rfl) (by kernel_rfl) (fun _ _ _ h => h) hS (fun _ => trivial) rfl ?_
        try simp only [Act.put, List.setIfInBounds_toArray, List.set_cons_zero, List.set_cons_succ, List.getElem_toArray, List.getElem_cons_succ, List.getElem_cons_zero]
        refine take_no 24 rfl (by kernel_rfl) (by kernel_rfl) (by kernel_rfl) (by kernel_rfl) (fun _ _ _ h => h) hS (fun _ => trivial) rfl ?_
        try simp only [Act.put, List.setIfInBounds_toArray, List.set_cons_zero, List.set_cons_succ, List.getElem_toArray, List.getElem_cons_succ, List.getElem_cons_zero]
        refine take_no 25 rfl (by kernel_rfl) (by kernel_rfl) (by kernel_rfl) (by kernel_rfl) (fun _ _ _ h => h) hS (fun _ => trivial) rfl ?_
        try simp only [Act.put, List.setIfInBounds_toArray, List.set_cons_zero, List.set_cons_succ, List.getElem_toArray, List.getElem_cons_succ, List.getElem_cons_zero]
        refine take_no 26 rfl (by kernel_rfl) (by kernel_rfl) (by kernel_rfl) (by kernel_rfl) (fun _ _ _ h => h) hS (fun _ => trivial) rfl ?_
        try simp only [Act.put, List.setIfInBounds_toArray, List.set_cons_zero, List.set_cons_succ, List.getElem_toArray, List.getElem_cons_succ, List.getElem_cons_zero]
        refine take_no 27 rfl (by kernel_rfl) (by kernel_rfl) (by kernel_rfl) (by kernel_rfl) (fun _ _ _ h => h) hS (fun _ => trivial) rfl ?_
        try simp only [Act.put, List.setIfInBounds_toArray, List.set_cons_zero, List.set_cons_succ, List.getElem_toArray, List.getElem_cons_succ, List.getElem_cons_zero]
        refine take_no 28 rfl (by kernel_rfl) (by kernel_rfl) (by kernel_rfl) (by kernel_rfl) (fun _ _ _ h => h) hS (fun _ => trivial) rfl ?_
        try simp only [Act.put, List.setIfInBounds_toArray, List.set_cons_zero, List.set_cons_succ, List.getElem_toArray, List.getElem_cons_succ, List.getElem_cons_zero]
        refine take_no 29 rfl (by kernel_rfl) (by kernel_rfl) (by kernel_rfl) (by kernel_rfl) (fun _ _ _ h => h) hS (fun _ => trivial) rfl ?_
        try simp only [Act.put, List.setIfInBounds_toArray, List.set_cons_zero, List.set_cons_succ, List.getElem_toArray, List.getElem_cons_succ, List.getElem_cons_zero]
        refine take_S (v := ?v30a) 30 rfl (by kernel_rfl) (by kernel_rfl) (by kernel_rfl) (by kernel_rfl) (fun _ _ _ h => h) hS (fun _ => trivial) rfl (fun w' hq => ?h30a) ?_
        case h30a => go_simp; all_goals (try with_reducible rfl)
        try simp only [Act.put, List.setIfInBounds_toArray, List.set_cons_zero, List.set_cons_succ, List.getElem_toArray, List.getElem_cons_succ, List.getElem_cons_zero]
        refine done_D (by kernel_rfl) ?_ _
        have HB1 := Lib.hid (HBW.out.alloc (.cells #[.bool s, .int .i64 (at_ : Int), .int .i64 1] 77)).drew
        have HO1 := Lib.hid (show RpcOwn (W.alloc (.cells #[.bool s, .int .i64 (at_ : Int), .int .i64 1] 77)).drew w.heap.size (.slice p2 0 c2) [] from own_alloc HO.out (.cells #[.bool s, .int .i64 (at_ : Int), .int .i64 1] 77))
        have HN1 := Lib.hid (one_rpc (w := W.drew) ⟨s, at_, 1⟩)
        have HX1 := Lib.hid (HXW.out.alloc HXW.out.size (.cells #[.bool s, .int .i64 (at_ : Int), .int .i64 1] 77)).drew
        go_wp2_with (at_builtin; go_loud (refine wpList_append_R rfl (.tmp 65) (.tmp 71) rfl w.heap.size (.slice p2 0 c2) [] [⟨s, at_, 1⟩] (fun _ => True) rfl HO1.out (some ⟨W.heap.size, 0, none⟩) 1 rfl HN1.out NilOk.some (by first | (simp; done) | (simp at hol ⊢; omega)) HX1.out.size ?_; intro v' w3 ho3 hg3; obtain ⟨n3, p3, c3, rfl⟩ : ∃ n p c, v' = .slice p n c := (by obtain ⟨p, c, h⟩ := own_slice ho3; exact ⟨_, p, c, h⟩); have HO3 := Lib.hid ho3; have HB3 := Lib.hid (Blk.grown HB1.out hg3 (own_far HO1.out hb)); have HX3 := Lib.hid (HX1.out.grown hg3 HX1.out.size (fun j hj => (HO1.out.lt j hj).1)); clear ho3 hg3))
        go_roundw
        case rel => exact ⟨k + 1, n3, p3, c3, by omega, rfl, by go_num, Lib.hid ⟨HB3.out, by rw [Hts.out, Hput.out]; exact HO3.out, HX3.out⟩⟩
        case measure => simp [intOf] <;> omega
      · obtain ⟨zs, za, zl⟩ := z
        have hz := Hok.out ⟨zs, za, zl⟩ (by simp)
        simp only at hz
        obtain ⟨g, c', hv, hgb, hnc, hcl, hfl⟩ := own_pos HO.out (by simp)
        injection hv with hv1 hvn hv2
        subst hv1
        subst hv2
        obtain ⟨q0', q1', q2', pset⟩ := pcells_last l ⟨zs, za, zl⟩
        have q0 := hcl _ _ q0'
        have q1 := hcl _ _ q1'
        have q2 := hcl _ _ q2'
        have fg := hfl (l.length * 3 + 2)
        have Hset := Lib.hid pset
        clear hcl hfl q0' q1' q2' pset hvn
        obtain ⟨m, hm⟩ : ∃ m, m = l.length := ⟨_, rfl⟩
        rw [← hm] at q0 q1 q2 fg Hset
        have hnk : n2 = m + 1 := by rw [Hnn.out, hm]; simp
        have hnc2 : n2 ≤ c2 := by rw [Hnn.out]; exact hnc
        have Hm := Lib.hid hm
        have hn0 : (0 : Int) < (n2 : Int) := by omega
        have hw : IntKind.i64.wrap ((n2 : Int) - 1) = (m : Int) := by rw [IntKind.wrap_i64]; have := Hnn.out; simp at hol this; omega
        have hkn : m < n2 := by omega
        have hkni : (m : Int) < (n2 : Int) := by omega
        have hki0 : (0 : Int) ≤ (m : Int) := by omega
        obtain ⟨t1, ht1⟩ : ∃ t, t = za + zl := ⟨_, rfl⟩
        have hwt : IntKind.i64.wrap ((za : Int) + (zl : Int)) = (t1 : Int) := by rw [IntKind.wrap_i64]; omega
        have Ht1 := Lib.hid ht1
        have hgW : g < (wr.alloc (.cells #[.int .i32 ch, .bool s, .int .i64 at_] 70)).heap.size := lt_of_cell q0
        clear hm hnk ht1 hnc
        by_cases hs : zs = s
        · subst hs
          by_cases hq : t1 = at_
          · subst hq
            have Hput := Lib.hid (show putL (l ++ [⟨zs, za, zl⟩]) ⟨zs, t1, 1⟩ = l ++ [⟨zs, za, zl + 1⟩] from by rw [putL_snoc]; exact if_pos ⟨rfl, Ht1.out.symm⟩)
            go_wp2_with fail
            generalize hWg : wr.alloc (.cells #[.int .i32 ch, .bool zs, .int .i64 t1] 70) = W at *
            clear hWg
            have hS : Holds [(wr.heap.size, 1, .bool zs), (wr.heap.size, 2, .int .i64 t1), (g, m * 3, .bool zs), (g, m * 3 + 1, .int .i64 za), (g, m * 3 + 2, .int .i64 zl)] W.drew := ⟨g1, g2, q0, q1, q2, trivial⟩
            refine begin_D (T := Hold0) [] (by kernel_rfl) hS (fun _ => trivial) ?_
            refine take_S (v := ?v0d) 0 rfl (by kernel_rfl) (by kernel_rfl) (by kernel_rfl) (by kernel_rfl) (fun _ _ _ h => h) hS (fun _ => trivial) rfl (fun w' hq => ?h0d) ?_
            case h0d => obtain ⟨hq0, hq1, hq2, hq3, hq4, -⟩ := hq; change _ = some _ at hq0; change _ = some _ at hq1; change _ = some _ at hq2; change _ = some _ at hq3; change _ = some _ at hq4; go_simp; all_goals (try with_reducible rfl)
            try simp only [Act.put, List.setIfInBounds_toArray, List.set_cons_zero, List.set_cons_succ, List.getElem_toArray, List.getElem_cons_succ, List.getElem_cons_zero]
            refine take_S (v := .bool true) 1 rfl (by kernel_rfl) (by kernel_rfl) (by kernel_rfl) (by kernel_rfl) (fun _ _ _ h => h) hS (fun _ => trivial) rfl (fun w' hq => ?h1d) ?_
            case h1d => obtain ⟨hq0, hq1, hq2, hq3, hq4, -⟩ := hq; change _ = some _ at hq0; change _ = some _ at hq1; change _ = some _ at hq2; change _ = some _ at hq3; change _ = some _ at hq4; go_simp; all_goals (omega)
            try simp only [Act.put, List.setIfInBounds_toArray, List.set_cons_zero, List.set_cons_succ, List.getElem_toArray, List.getElem_cons_succ, List.getElem_cons_zero]
            refine take_S (v := ?v2d) 2 rfl (by kernel_rfl) (by kernel_rfl) (by kernel_rfl) (by kernel_rfl) (fun _ _ _ h => h) hS (fun _ => trivial) rfl (fun w' hq => ?h2d) ?_
            case h2d => obtain ⟨hq0, hq1, hq2, hq3, hq4, -⟩ := hq; change _ = some _ at hq0; change _ = some _ at hq1; change _ = some _ at hq2; change _ = some _ at hq3; change _ = some _ at hq4; go_simp; all_goals (try with_reducible rfl)
            try simp only [Act.put, List.setIfInBounds_toArray, List.set_cons_zero, List.set_cons_succ, List.getElem_toArray, List.getElem_cons_succ, List.getElem_cons_zero]
            refine take_S (v := ?v3d) 3 rfl (by kernel_rfl) (by kernel_rfl) (by kernel_rfl) (by kernel_rfl) (fun _ _ _ h => h) hS (fun _ => trivial) rfl (fun w' hq => ?h3d) ?_
            case h3d => obtain ⟨hq0, hq1, hq2, hq3, hq4, -⟩ := hq; change _ = some _ at hq0; change _ = some _ at hq1; change _ = some _ at hq2; change _ = some _ at hq3; change _ = some _ at hq4; go_simp; all_goals (try with_reducible rfl)
            try simp only [Act.put, List.setIfInBounds_toArray, List.set_cons_zero, List.set_cons_succ, List.getElem_toArray, List.getElem_cons_succ, List.getElem_cons_zero]
            refine take_S (v := ?v4d) 4 rfl (by kernel_rfl) (by kernel_rfl) (by kernel_rfl) (by kernel_rfl) (fun _ _ _ h => h) hS (fun _ => trivial) rfl (fun w' hq => ?h4d) ?_
            case h4d => obtain ⟨hq0, hq1, hq2, hq3, hq4, -⟩ := hq; change _ = some _ at hq0; change _ = some _ at hq1; change _ = some _ at hq2; change _ = some _ at hq3; change _ = some _ at hq4; go_simp; all_goals (try with_reducible rfl)
            try simp only [Act.put, List.setIfInBounds_toArray, List.set_cons_zero, List.set_cons_succ, List.getElem_toArray, List.getElem_cons_succ, List.getElem_cons_zero]
            refine take_S (v := .int .i64 (m : Int)) 5 rfl (by kernel_rfl) (by kernel_rfl) (by kernel_rfl) (by kernel_rfl) (fun _ _ _ h => h) hS (fun _ => trivial) rfl (fun w' hq => ?h5d) ?_
            case h5d => obtain ⟨hq0, hq1, hq2, hq3, hq4, -⟩ := hq; change _ = some _ at hq0; change _ = some _ at hq1; change _ = some _ at hq2; change _ = some _ at hq3; change _ = some _ at hq4; go_simp; all_goals (first | rw [hw] | skip)
            try simp only [Act.put, List.setIfInBounds_toArray, List.set_cons_zero, List.set_cons_succ, List.getElem_toArray, List.getElem_cons_succ, List.getElem_cons_zero]
            refine take_S (v := ?v6d) 6 rfl (by kernel_rfl) (by kernel_rfl) (by kernel_rfl) (by kernel_rfl) (fun _ _ _ h => h) hS (fun _ => trivial) rfl (fun w' hq => ?h6d) ?_
            case h6d => obtain ⟨hq0, hq1, hq2, hq3, hq4, -⟩ := hq; change _ = some _ at hq0; change _ = some _ at hq1; change _ = some _ at hq2; change _ = some _ at hq3; change _ = some _ at hq4; go_simp; all_goals (try with_reducible rfl)
            try simp only [Act.put, List.setIfInBounds_toArray, List.set_cons_zero, List.set_cons_succ, List.getElem_toArray, List.getElem_cons_succ, List.getElem_cons_zero]
            refine take_S (v := ?v7d) 7 rfl (by kernel_rfl) (by kernel_rfl) (by kernel_rfl) (by kernel_rfl) (fun _ _ _ h => h) hS (fun _ => trivial) rfl (fun w' hq => ?h7d) ?_
            case h7d => obtain ⟨hq0, hq1, hq2, hq3, hq4, -⟩ := hq; change _ = some _ at hq0; change _ = some _ at hq1; change _ = some _ at hq2; change _ = some _ at hq3; change _ = some _ at hq4; go_simp; all_goals (try with_reducible rfl)
            try simp only [Act.put, List.setIfInBounds_toArray, List.set_cons_zero, List.set_cons_succ, List.getElem_toArray, List.getElem_cons_succ, List.getElem_cons_zero]
            refine take_S (v := ?v8d) 8 rfl (by kernel_rfl) (by kernel_rfl) (by kernel_rfl) (by kernel_rfl) (fun _ _ _ h => h) hS (fun _ => trivial) rfl (fun w' hq => ?h8d) ?_
            case h8d => obtain ⟨hq0, hq1, hq2, hq3, hq4, -⟩ := hq; change _ = some _ at hq0; change _ = some _ at hq1; change _ = some _ at hq2; change _ = some _ at hq3; change _ = some _ at hq4; go_simp; all_goals (try with_reducible rfl)
            try simp only [Act.put, List.setIfInBounds_toArray, List.set_cons_zero, List.set_cons_succ, List.getElem_toArray, List.getElem_cons_succ, List.getElem_cons_zero]
            refine take_S (v := ?v9d) 9 rfl (by kernel_rfl) (by kernel_rfl) (by kernel_rfl) (by kernel_rfl) (fun _ _ _ h => h) hS (fun _ => trivial) rfl (fun w' hq => ?h9d) ?_
            case h9d => obtain ⟨hq0, hq1, hq2, hq3, hq4, -⟩ := hq; change _ = some _ at hq0; change _ = some _ at hq1; change _ = some _ at hq2; change _ = some _ at hq3; change _ = some _ at hq4; go_simp; all_goals (try with_reducible rfl)
            try simp only [Act.put, List.setIfInBounds_toArray, List.set_cons_zero, List.set_cons_succ, List.getElem_toArray, List.getElem_cons_succ, List.getElem_cons_zero]
            refine take_S (v := ?v10d) 10 rfl (by kernel_rfl) (by kernel_rfl) (by kernel_rfl) (by kernel_rfl) (fun _ _ _ h => h) hS (fun _ => trivial) rfl (fun w' hq => ?h10d) ?_
            case h10d => obtain ⟨hq0, hq1, hq2, hq3, hq4, -⟩ := hq; change _ = some _ at hq0; change _ = some _ at hq1; change _ = some _ at hq2; change _ = some _ at hq3; change _ = some _ at hq4; go_simp; all_goals (try with_reducible rfl)
            try simp only [Act.put, List.setIfInBounds_toArray, List.set_cons_zero, List.set_cons_succ, List.getElem_toArray, List.getElem_cons_succ, List.getElem_cons_zero]
            refine take_S (v := .bool true) 11 rfl (by kernel_rfl) (by kernel_rfl) (by kernel_rfl) (by kernel_rfl) (fun _ _ _ h => h) hS (fun _ => trivial) rfl (fun w' hq => ?h11d) ?_
            case h11d => obtain ⟨hq0, hq1, hq2, hq3, hq4, -⟩ := hq; change _ = some _ at hq0; change _ = some _ at hq1; change _ = some _ at hq2; change _ = some _ at hq3; change _ = some _ at hq4; go_simp; all_goals (first | rfl | (simp; done) | (simp [hse]))
            try simp only [Act.put, List.setIfInBounds_toArray, List.set_cons_zero, List.set_cons_succ, List.getElem_toArray, List.getElem_cons_succ, List.getElem_cons_zero]
            refine take_S (v := ?v12d) 12 rfl (by kernel_rfl) (by kernel_rfl) (by kernel_rfl) (by kernel_rfl) (fun _ _ _ h => h) hS (fun _ => trivial) rfl (fun w' hq => ?h12d) ?_
            case h12d => obtain ⟨hq0, hq1, hq2, hq3, hq4, -⟩ := hq; change _ = some _ at hq0; change _ = some _ at hq1; change _ = some _ at hq2; change _ = some _ at hq3; change _ = some _ at hq4; go_simp; all_goals (try with_reducible rfl)
            try simp only [Act.put, List.setIfInBounds_toArray, List.set_cons_zero, List.set_cons_succ, List.getElem_toArray, List.getElem_cons_succ, List.getElem_cons_zero]
            refine take_S (v := ?v13d) 13 rfl (by kernel_rfl) (by kernel_rfl) (by kernel_rfl) (by kernel_rfl) (fun _ _ _ h => h) hS (fun _ => trivial) rfl (fun w' hq => ?h13d) ?_
            case h13d => obtain ⟨hq0, hq1, hq2, hq3, hq4, -⟩ := hq; change _ = some _ at hq0; change _ = some _ at hq1; change _ = some _ at hq2; change _ = some _ at hq3; change _ = some _ at hq4; go_simp; all_goals (try with_reducible rfl)
            try simp only [Act.put, List.setIfInBounds_toArray, List.set_cons_zero, List.set_cons_succ, List.getElem_toArray, List.getElem_cons_succ, List.getElem_cons_zero]
            refine take_S (v := ?v14d) 14 rfl (by kernel_rfl) (by kernel_rfl) (by kernel_rfl) (by kernel_rfl) (fun _ _ _ h => h) hS (fun _ => trivial) rfl (fun w' hq => ?h14d) ?_
            case h14d => obtain ⟨hq0, hq1, hq2, hq3, hq4, -⟩ := hq; change _ = some _ at hq0; change _ = some _ at hq1; change _ = some _ at hq2; change _ = some _ at hq3; change _ = some _ at hq4; go_simp; all_goals (try with_reducible rfl)
            try simp only [Act.put, List.setIfInBounds_toArray, List.set_cons_zero, List.set_cons_succ, List.getElem_toArray, List.getElem_cons_succ, List.getElem_cons_zero]
            refine take_S (v := ?v15d) 15 rfl (by kernel_rfl) (by kernel_rfl) (by kernel_rfl) (by kernel_rfl) (fun _ _ _ h => h) hS (fun _ => trivial) rfl (fun w' hq => ?h15d) ?_
            case h15d => obtain ⟨hq0, hq1, hq2, hq3, hq4, -⟩ := hq; change _ = some _ at hq0; change _ = some _ at hq1; change _ = some _ at hq2; change _ = some _ at hq3; change _ = some _ at hq4; go_simp; all_goals (try with_reducible rfl)
            try simp only [Act.put, List.setIfInBounds_toArray, List.set_cons_zero, List.set_cons_succ, List.getElem_toArray, List.getElem_cons_succ, List.getElem_cons_zero]
            refine take_S (v := .int .i64 (m : Int)) 16 rfl (by kernel_rfl) (by kernel_rfl) (by kernel_rfl) (by kernel_rfl) (fun _ _ _ h => h) hS (fun _ => trivial) rfl (fun w' hq => ?h16d) ?_
            case h16d => obtain ⟨hq0, hq1, hq2, hq3, hq4, -⟩ := hq; change _ = some _ at hq0; change _ = some _ at hq1; change _ = some _ at hq2; change _ = some _ at hq3; change _ = some _ at hq4; go_simp; all_goals (first | rw [hw] | skip)
            try simp only [Act.put, List.setIfInBounds_toArray, List.set_cons_zero, List.set_cons_succ, List.getElem_toArray, List.getElem_cons_succ, List.getElem_cons_zero]
            refine take_S (v := ?v17d) 17 rfl (by kernel_rfl) (by kernel_rfl) (by kernel_rfl) (by kernel_rfl) (fun _ _ _ h => h) hS (fun _ => trivial) rfl (fun w' hq => ?h17d) ?_
            case h17d => obtain ⟨hq0, hq1, hq2, hq3, hq4, -⟩ := hq; change _ = some _ at hq0; change _ = some _ at hq1; change _ = some _ at hq2; change _ = some _ at hq3; change _ = some _ at hq4; go_simp; all_goals (try with_reducible rfl)
            try simp only [Act.put, List.setIfInBounds_toArray, List.set_cons_zero, List.set_cons_succ, List.getElem_toArray, List.getElem_cons_succ, List.getElem_cons_zero]
            refine take_S (v := ?v18d) 18 rfl (by kernel_rfl) (by kernel_rfl) (by kernel_rfl) (by kernel_rfl) (fun _ _ _ h => h) hS (fun _ => trivial) rfl (fun w' hq => ?h18d) ?_
            case h18d => obtain ⟨hq0, hq1, hq2, hq3, hq4, -⟩ := hq; change _ = some _ at hq0; change _ = some _ at hq1; change _ = some _ at hq2; change _ = some _ at hq3; change _ = some _ at hq4; go_simp; all_goals (try with_reducible rfl)
            try simp only [Act.put, List.setIfInBounds_toArray, List.set_cons_zero, List.set_cons_succ, List.getElem_toArray, List.getElem_cons_succ, List.getElem_cons_zero]
            refine take_S (v := ?v19d) 19 rfl (by kernel_rfl) (by kernel_rfl) (by kernel_rfl) (by kernel_rfl) (fun _ _ _ h => h) hS (fun _ => trivial) rfl (fun w' hq => ?h19d) ?_
            case h19d => obtain ⟨hq0, hq1, hq2, hq3, hq4, -⟩ := hq; change _ = some _ at hq0; change _ = some _ at hq1; change _ = some _ at hq2; change _ = some _ at hq3; change _ = some _ at hq4; go_simp; all_goals (try with_reducible rfl)
            try simp only [Act.put, List.setIfInBounds_toArray, List.set_cons_zero, List.set_cons_succ, List.getElem_toArray, List.getElem_cons_succ, List.getElem_cons_zero]
            refine take_S (v := ?v20d) 20 rfl (by kernel_rfl) (by kernel_rfl) (by kernel_rfl) (by kernel_rfl) (fun _ _ _ h => h) hS (fun _ => trivial) rfl (fun w' hq => ?h20d) ?_
            case h20d => obtain ⟨hq0, hq1, hq2, hq3, hq4, -⟩ := hq; change _ = some _ at hq0; change _ = some _ at hq1; change _ = some _ at hq2; change _ = some _ at hq3; change _ = some _ at hq4; go_simp; all_goals (try with_reducible rfl)
            try simp only [Act.put, List.setIfInBounds_toArray, List.set_cons_zero, List.set_cons_succ, List.getElem_toArray, List.getElem_cons_succ, List.getElem_cons_zero]
            refine take_S (v := ?v21d) 21 rfl (by kernel_rfl) (by kernel_rfl) (by kernel_rfl) (by kernel_rfl) (fun _ _ _ h => h) hS (fun _ => trivial) rfl (fun w' hq => ?h21d) ?_
            case h21d => obtain ⟨hq0, hq1, hq2, hq3, hq4, -⟩ := hq; change _ = some _ at hq0; change _ = some _ at hq1; change _ = some _ at hq2; change _ = some _ at hq3; change _ = some _ at hq4; go_simp; all_goals (try with_reducible rfl)
            try simp only [Act.put, List.setIfInBounds_toArray, List.set_cons_zero, List.set_cons_succ, List.getElem_toArray, List.getElem_cons_succ, List.getElem_cons_zero]
            refine take_S (v := .int .i64 (m : Int)) 22 rfl (by kernel_rfl) (by kernel_rfl) (by kernel_rfl) (by kernel_rfl) (fun _ _ _ h => h) hS (fun _ => trivial) rfl (fun w' hq => ?h22d) ?_
            case h22d => obtain ⟨hq0, hq1, hq2, hq3, hq4, -⟩ := hq; change _ = some _ at hq0; change _ = some _ at hq1; change _ = some _ at hq2; change _ = some _ at hq3; change _ = some _ at hq4; go_simp; all_goals (first | rw [hw] | skip)
            try simp only [Act.put, List.setIfInBounds_toArray, List.set_cons_zero, List.set_cons_succ, List.getElem_toArray, List.getElem_cons_succ, List.getElem_cons_zero]
            refine take_S (v := ?v23d) 23 rfl (by kernel_rfl) (by kernel_rfl) (by kernel_rfl) (by kernel_rfl) (fun _ _ _ h => h) hS (fun _ => trivial) rfl (fun w' hq => ?h23d) ?_
            case h23d => obtain ⟨hq0, hq1, hq2, hq3, hq4, -⟩ := hq; change _ = some _ at hq0; change _ = some _ at hq1; change _ = some _ at hq2; change _ = some _ at hq3; change _ = some _ at hq4; go_simp; all_goals (try with_reducible rfl)
            try simp only [Act.put, List.setIfInBounds_toArray, List.set_cons_zero, List.set_cons_succ, List.getElem_toArray, List.getElem_cons_succ, List.getElem_cons_zero]
            refine take_S (v := ?v24d) 24 rfl (by kernel_rfl) (by kernel_rfl) (by kernel_rfl) (by kernel_rfl) (fun _ _ _ h => h) hS (fun _ => trivial) rfl (fun w' hq => ?h24d) ?_
            case h24d => obtain ⟨hq0, hq1, hq2, hq3, hq4, -⟩ := hq; change _ = some _ at hq0; change _ = some _ at hq1; change _ = some _ at hq2; change _ = some _ at hq3; change _ = some _ at hq4; go_simp; all_goals (try with_reducible rfl)
            try simp only [Act.put, List.setIfInBounds_toArray, List.set_cons_zero, List.set_cons_succ, List.getElem_toArray, List.getElem_cons_succ, List.getElem_cons_zero]
            refine take_S (v := ?v25d) 25 rfl (by kernel_rfl) (by kernel_rfl) (by kernel_rfl) (by kernel_rfl) (fun _ _ _ h => h) hS (fun _ => trivial) rfl (fun w' hq => ?h25d) ?_
            case h25d => obtain ⟨hq0, hq1, hq2, hq3, hq4, -⟩ := hq; change _ = some _ at hq0; change _ = some _ at hq1; change _ = some _ at hq2; change _ = some _ at hq3; change _ = some _ at hq4; go_simp; all_goals (try with_reducible rfl)
            try simp only [Act.put, List.setIfInBounds_toArray, List.set_cons_zero, List.set_cons_succ, List.getElem_toArray, List.getElem_cons_succ, List.getElem_cons_zero]
            refine take_S (v := .int .i64 (t1 : Int)) 26 rfl (by kernel_rfl) (by kernel_rfl) (by kernel_rfl) (by kernel_rfl) (fun _ _ _ h => h) hS (fun _ => trivial) rfl (fun w' hq => ?h26d) ?_
            case h26d => obtain ⟨hq0, hq1, hq2, hq3, hq4, -⟩ := hq; change _ = some _ at hq0; change _ = some _ at hq1; change _ = some _ at hq2; change _ = some _ at hq3; change _ = some _ at hq4; go_simp; all_goals (first | rw [hwt] | skip)
            try simp only [Act.put, List.setIfInBounds_toArray, List.set_cons_zero, List.set_cons_succ, List.getElem_toArray, List.getElem_cons_succ, List.getElem_cons_zero]
            refine take_S (v := ?v27d) 27 rfl (by kernel_rfl) (by kernel_rfl) (by kernel_rfl) (by kernel_rfl) (fun _ _ _ h => h) hS (fun _ => trivial) rfl (fun w' hq => ?h27d) ?_
            case h27d => obtain ⟨hq0, hq1, hq2, hq3, hq4, -⟩ := hq; change _ = some _ at hq0; change _ = some _ at hq1; change _ = some _ at hq2; change _ = some _ at hq3; change _ = some _ at hq4; go_simp; all_goals (try with_reducible rfl)
            try simp only [Act.put, List.setIfInBounds_toArray, List.set_cons_zero, List.set_cons_succ, List.getElem_toArray, List.getElem_cons_succ, List.getElem_cons_zero]
            refine take_S (v := ?v28d) 28 rfl (by kernel_rfl) (by kernel_rfl) (by kernel_rfl) (by kernel_rfl) (fun _ _ _ h => h) hS (fun _ => trivial) rfl (fun w' hq => ?h28d) ?_
            case h28d => obtain ⟨hq0, hq1, hq2, hq3, hq4, -⟩ := hq; change _ = some _ at hq0; change _ = some _ at hq1; change _ = some _ at hq2; change _ = some _ at hq3; change _ = some _ at hq4; go_simp; all_goals (try with_reducible rfl)
            try simp only [Act.put, List.setIfInBounds_toArray, List.set_cons_zero, List.set_cons_succ, List.getElem_toArray, List.getElem_cons_succ, List.getElem_cons_zero]
            refine take_S (v := .bool true) 29 rfl (by kernel_rfl) (by kernel_rfl) (by kernel_rfl) (by kernel_rfl) (fun _ _ _ h => h) hS (fun _ => trivial) rfl (fun w' hq => ?h29d) ?_
            case h29d => obtain ⟨hq0, hq1, hq2, hq3, hq4, -⟩ := hq; change _ = some _ at hq0; change _ = some _ at hq1; change _ = some _ at hq2; change _ = some _ at hq3; change _ = some _ at hq4; go_simp; all_goals (first | rfl | (simp; done) | (simp [hqe]))
            try simp only [Act.put, List.setIfInBounds_toArray, List.set_cons_zero, List.set_cons_succ, List.getElem_toArray, List.getElem_cons_succ, List.getElem_cons_zero]
            refine take_S (v := ?v30d) 30 rfl (by kernel_rfl) (by kernel_rfl) (by kernel_rfl) (by kernel_rfl) (fun _ _ _ h => h) hS (fun _ => trivial) rfl (fun w' hq => ?h30d) ?_
            case h30d => obtain ⟨hq0, hq1, hq2, hq3, hq4, -⟩ := hq; change _ = some _ at hq0; change _ = some _ at hq1; change _ = some _ at hq2; change _ = some _ at hq3; change _ = some _ at hq4; go_simp; all_goals (try with_reducible rfl)
            try simp only [Act.put, List.setIfInBounds_toArray, List.set_cons_zero, List.set_cons_succ, List.getElem_toArray, List.getElem_cons_succ, List.getElem_cons_zero]
            refine done_D (by kernel_rfl) ?_ _
            obtain ⟨y1, hy1⟩ : ∃ t, t = zl + 1 := ⟨_, rfl⟩
            have hwy : IntKind.i64.wrap ((zl : Int) + 1) = (y1 : Int) := by rw [IntKind.wrap_i64]; omega
            have Hy1 := Lib.hid hy1
            clear hy1 hS
            go_wp2_with fail
            have ho2 := own_write (i := m * 3 + 2) (show W.ownsRow w.heap.size 77 3 (.slice (some ⟨g, 0, none⟩) n2 c2) n2 (pcells (l ++ [⟨zs, za, zl⟩])) from by rw [Hnn.out]; have h := HO.out; rw [Hnn.out] at h; exact h) (.int .i64 (y1 : Int))
            rw [Hset.out y1] at ho2
            have HO2 := Lib.hid ho2
            have HB2 := Lib.hid (HBW.out.far (p := ⟨g, m * 3 + 2, none⟩) (Nat.ne_of_lt (Nat.lt_of_lt_of_le hb hgb)) (.int .i64 (y1 : Int)))
            have HX2 := Lib.hid (HXW.out.setCell (p := ⟨g, m * 3 + 2, none⟩) hgb (.int .i64 (y1 : Int)))
            clear ho2
            go_roundw
            case rel => exact ⟨k + 1, n2, _, c2, by omega, rfl, by go_num, Lib.hid ⟨HB2.out, by rw [Hts.out, Hput.out]; unfold RpcOwn; rw [show (l ++ [(⟨zs, za, zl + 1⟩ : Pc)]).length = n2 from by rw [Hnn.out]; simp, ← Hy1.out]; exact HO2.out, HX2.out.drew⟩⟩
            case measure => simp [intOf] <;> omega
          · have hqe : ((t1 : Int) == (at_ : Int)) = false := by rw [beq_eq_false_iff_ne]; omega
            have Hput := Lib.hid (show putL (l ++ [⟨zs, za, zl⟩]) ⟨zs, at_, 1⟩ = l ++ [⟨zs, za, zl⟩] ++ [⟨zs, at_, 1⟩] from by rw [putL_snoc]; exact if_neg (fun h => hq (Ht1.out.trans h.2)))
            go_wp2_with fail
            generalize hWg : wr.alloc (.cells #[.int .i32 ch, .bool zs, .int .i64 at_] 70) = W at *
            clear hWg
            have hS : Holds [(wr.heap.size, 1, .bool zs), (wr.heap.size, 2, .int .i64 at_), (g, m * 3, .bool zs), (g, m * 3 + 1, .int .i64 za), (g, m * 3 + 2, .int .i64 zl)] W.drew := ⟨g1, g2, q0, q1, q2, trivial⟩
            refine begin_D (T := Hold0) [] (by kernel_rfl) hS (fun _ => trivial) ?_
            refine take_S (v := ?v0c) 0 rfl (by kernel_rfl) (by kernel_rfl) (by kernel_rfl) (by kernel_rfl) (fun _ _ _ h => h) hS (fun _ => trivial) rfl (fun w' hq => ?h0c) ?_
            case h0c => obtain ⟨hq0, hq1, hq2, hq3, hq4, -⟩ := hq; change _ = some _ at hq0; change _ = some _ at hq1; change _ = some _ at hq2; change _ = some _ at hq3; change _ = some _ at hq4; go_simp; all_goals (try with_reducible rfl)
            try simp only [Act.put, List.setIfInBounds_toArray, List.set_cons_zero, List.set_cons_succ, List.getElem_toArray, List.getElem_cons_succ, List.getElem_cons_zero]
            refine take_S (v := .bool true) 1 rfl (by kernel_rfl) (by kernel_rfl) (by kernel_rfl) (by kernel_rfl) (fun _ _ _ h => h) hS (fun _ => trivial) rfl (fun w' hq => ?h1c) ?_
            case h1c => obtain ⟨hq0, hq1, hq2, hq3, hq4, -⟩ := hq; change _ = some _ at hq0; change _ = some _ at hq1; change _ = some _ at hq2; change _ = some _ at hq3; change _ = some _ at hq4; go_simp; all_goals (omega)
            try simp only [Act.put, List.setIfInBounds_toArray, List.set_cons_zero, List.set_cons_succ, List.getElem_toArray, List.getElem_cons_succ, List.getElem_cons_zero]
            refine take_S (v := ?v2c) 2 rfl (by kernel_rfl) (by kernel_rfl) (by kernel_rfl) (by kernel_rfl) (fun _ _ _ h => h) hS (fun _ => trivial) rfl (fun w' hq => ?h2c) ?_
            case h2c => obtain ⟨hq0, hq1, hq2, hq3, hq4, -⟩ := hq; change _ = some _ at hq0; change _ = some _ at hq1; change _ = some _ at hq2; change _ = some _ at hq3; change _ = some _ at hq4; go_simp; all_goals (try with_reducible rfl)
            try simp only [Act.put, List.setIfInBounds_toArray, List.set_cons_zero, List.set_cons_succ, List.getElem_toArray, List.getElem_cons_succ, List.getElem_cons_zero]
            refine take_S (v := ?v3c) 3 rfl (by kernel_rfl) (by kernel_rfl) (by kernel_rfl) (by kernel_rfl) (fun _ _ _ h => h) hS (fun _ => trivial) rfl (fun w' hq => ?h3c) ?_
            case h3c => obtain ⟨hq0, hq1, hq2, hq3, hq4, -⟩ := hq; change _ = some _ at hq0; change _ = some _ at hq1; change _ = some _ at hq2; change _ = some _ at hq3; change _ = some _ at hq4; go_simp; all_goals (try with_reducible rfl)
            try simp only [Act.put, List.setIfInBounds_toArray, List.set_cons_zero, List.set_cons_succ, List.getElem_toArray, List.getElem_cons_succ, List.getElem_cons_zero]
            refine take_S (v := ?v4c) 4 rfl (by kernel_rfl) (by kernel_rfl) (by kernel_rfl) (by kernel_rfl) (fun _ _ _ h => h) hS (fun _ => trivial) rfl (fun w' hq => ?h4c) ?_
            case h4c => obtain ⟨hq0, hq1, hq2, hq3, hq4, -⟩ := hq; change _ = some _ at hq0; change _ = some _ at hq1; change _ = some _ at hq2; change _ = some _ at hq3; change _ = some _ at hq4; go_simp; all_goals (try with_reducible rfl)
            try simp only [Act.put, List.setIfInBounds_toArray, List.set_cons_zero, List.set_cons_succ, List.getElem_toArray, List.getElem_cons_succ, List.getElem_cons_zero]
            refine take_S (v := .int .i64 (m : Int)) 5 rfl (by kernel_rfl) (by kernel_rfl) (by kernel_rfl) (by kernel_rfl) (fun _ _ _ h => h) hS (fun _ => trivial) rfl (fun w' hq => ?h5c) ?_
            case h5c => obtain ⟨hq0, hq1, hq2, hq3, hq4, -⟩ := hq; change _ = some _ at hq0; change _ = some _ at hq1; change _ = some _ at hq2; change _ = some _ at hq3; change _ = some _ at hq4; go_simp; all_goals (first | rw [hw] | skip)
            try simp only [Act.put, List.setIfInBounds_toArray, List.set_cons_zero, List.set_cons_succ, List.getElem_toArray, List.getElem_cons_succ, List.getElem_cons_zero]
            refine take_S (v := ?v6c) 6 rfl (by kernel_rfl) (by kernel_rfl) (by kernel_rfl) (by kernel_rfl) (fun _ _ _ h => h) hS (fun _ => trivial) rfl (fun w' hq => ?h6c) ?_
            case h6c => obtain ⟨hq0, hq1, hq2, hq3, hq4, -⟩ := hq; change _ = some _ at hq0; change _ = some _ at hq1; change _ = some _ at hq2; change _ = some _ at hq3; change _ = some _ at hq4; go_simp; all_goals (try with_reducible rfl)
            try simp only [Act.put, List.setIfInBounds_toArray, List.set_cons_zero, List.set_cons_succ, List.getElem_toArray, List.getElem_cons_succ, List.getElem_cons_zero]
            refine take_S (v := ?v7c) 7 rfl (by kernel_rfl) (by kernel_rfl) (by kernel_rfl) (by kernel_rfl) (fun _ _ _ h => h) hS (fun _ => trivial) rfl (fun w' hq => ?h7c) ?_
            case h7c => obtain ⟨hq0, hq1, hq2, hq3, hq4, -⟩ := hq; change _ = some _ at hq0; change _ = some _ at hq1; change _ = some _ at hq2; change _ = some _ at hq3; change _ = some _ at hq4; go_simp; all_goals (try with_reducible rfl)
            try simp only [Act.put, List.setIfInBounds_toArray, List.set_cons_zero, List.set_cons_succ, List.getElem_toArray, List.getElem_cons_succ, List.getElem_cons_zero]
            refine take_S (v := ?v8c) 8 rfl (by kernel_rfl) (by kernel_rfl) (by kernel_rfl) (by kernel_rfl) (fun _ _ _ h => h) hS (fun _ => trivial) rfl (fun w' hq => ?h8c) ?_
            case h8c => obtain ⟨hq0, hq1, hq2, hq3, hq4, -⟩ := hq; change _ = some _ at hq0; change _ = some _ at hq1; change _ = some _ at hq2; change _ = some _ at hq3; change _ = some _ at hq4; go_simp; all_goals (try with_reducible rfl)
            try simp only [Act.put, List.setIfInBounds_toArray, List.set_cons_zero, List.set_cons_succ, List.getElem_toArray, List.getElem_cons_succ, List.getElem_cons_zero]
            refine take_S (v := ?v9c) 9 rfl (by kernel_rfl) (by kernel_rfl) (by kernel_rfl) (by kernel_rfl) (fun _ _ _ h => h) hS (fun _ => trivial) rfl (fun w' hq => ?h9c) ?_
            case h9c => obtain ⟨hq0, hq1, hq2, hq3, hq4, -⟩ := hq; change _ = some _ at hq0; change _ = some _ at hq1; change _ = some _ at hq2; change _ = some _ at hq3; change _ = some _ at hq4; go_simp; all_goals (try with_reducible rfl)
            try simp only [Act.put, List.setIfInBounds_toArray, List.set_cons_zero, List.set_cons_succ, List.getElem_toArray, List.getElem_cons_succ, List.getElem_cons_zero]
            refine take_S (v := ?v10c) 10 rfl (by kernel_rfl) (by kernel_rfl) (by kernel_rfl) (by kernel_rfl) (fun _ _ _ h => h) hS (fun _ => trivial) rfl (fun w' hq => ?h10c) ?_
            case h10c => obtain ⟨hq0, hq1, hq2, hq3, hq4, -⟩ := hq; change _ = some _ at hq0; change _ = some _ at hq1; change _ = some _ at hq2; change _ = some _ at hq3; change _ = some _ at hq4; go_simp; all_goals (try with_reducible rfl)
            try simp only [Act.put, List.setIfInBounds_toArray, List.set_cons_zero, List.set_cons_succ, List.getElem_toArray, List.getElem_cons_succ, List.getElem_cons_zero]
            refine take_S (v := .bool true) 11 rfl (by kernel_rfl) (by kernel_rfl) (by kernel_rfl) (by kernel_rfl) (fun _ _ _ h => h) hS (fun _ => trivial) rfl (fun w' hq => ?h11c) ?_
            case h11c => obtain ⟨hq0, hq1, hq2, hq3, hq4, -⟩ := hq; change _ = some _ at hq0; change _ = some _ at hq1; change _ = some _ at hq2; change _ = some _ at hq3; change _ = some _ at hq4; go_simp; all_goals (first | rfl | (simp; done) | (simp [hse]))
            try simp only [Act.put, List.setIfInBounds_toArray, List.set_cons_zero, List.set_cons_succ, List.getElem_toArray, List.getElem_cons_succ, List.getElem_cons_zero]
            refine take_S (v := ?v12c) 12 rfl (by kernel_rfl) (by kernel_rfl) (by kernel_rfl) (by kernel_rfl) (fun _ _ _ h => h) hS (fun _ => trivial) rfl (fun w' hq => ?h12c) ?_
            case h12c => obtain ⟨hq0, hq1, hq2, hq3, hq4, -⟩ := hq; change _ = some _ at hq0; change _ = some _ at hq1; change _ = some _ at hq2; change _ = some _ at hq3; change _ = some _ at hq4; go_simp; all_goals (try with_reducible rfl)
            try simp only [Act.put, List.setIfInBounds_toArray, List.set_cons_zero, List.set_cons_succ, List.getElem_toArray, List.getElem_cons_succ, List.getElem_cons_zero]
            refine take_S (v := ?v13c) 13 rfl (by kernel_rfl) (by kernel_rfl) (by kernel_rfl) (by kernel_rfl) (fun _ _ _ h => h) hS (fun _ => trivial) rfl (fun w' hq => ?h13c) ?_
            case h13c => obtain ⟨hq0, hq1, hq2, hq3, hq4, -⟩ := hq; change _ = some _ at hq0; change _ = some _ at hq1; change _ = some _ at hq2; change _ = some _ at hq3; change _ = some _ at hq4; go_simp; all_goals (try with_reducible rfl)
            try simp only [Act.put, List.setIfInBounds_toArray, List.set_cons_zero, List.set_cons_succ, List.getElem_toArray, List.getElem_cons_succ, List.getElem_cons_zero]
            refine take_S (v := ?v14c) 14 rfl (by kernel_rfl) (by kernel_rfl) (by kernel_rfl) (by kernel_rfl) (fun _ _ _ h => h) hS (fun _ => trivial) rfl (fun w' hq => ?h14c) ?_
            case h14c => obtain ⟨hq0, hq1, hq2, hq3, hq4, -⟩ := hq; change _ = some _ at hq0; change _ = some _ at hq1; change _ = some _ at hq2; change _ = some _ at hq3; change _ = some _ at hq4; go_simp; all_goals (try with_reducible rfl)
            try simp only [Act.put, List.setIfInBounds_toArray, List.set_cons_zero, List.set_cons_succ, List.getElem_toArray, List.getElem_cons_succ, List.getElem_cons_zero]
            refine take_S (v := ?v15c) 15 rfl (by kernel_rfl) (by kernel_rfl) (by kernel_rfl) (by kernel_rfl) (fun _ _ _ h => h) hS (fun _ => trivial) rfl (fun w' hq => ?h15c) ?_
            case h15c => obtain ⟨hq0, hq1, hq2, hq3, hq4, -⟩ := hq; change _ = some _ at hq0; change _ = some _ at hq1; change _ = some _ at hq2; change _ = some _ at hq3; change _ = some _ at hq4; go_simp; all_goals (try with_reducible rfl)
            try simp only [Act.put, List.setIfInBounds_toArray, List.set_cons_zero, List.set_cons_succ, List.getElem_toArray, List.getElem_cons_succ, List.getElem_cons_zero]
            refine take_S (v := .int .i64 (m : Int)) 16 rfl (by kernel_rfl) (by kernel_rfl) (by kernel_rfl) (by kernel_rfl) (fun _ _ _ h => h) hS (fun _ => trivial) rfl (fun w' hq => ?h16c) ?_
            case h16c => obtain ⟨hq0, hq1, hq2, hq3, hq4, -⟩ := hq; change _ = some _ at hq0; change _ = some _ at hq1; change _ = some _ at hq2; change _ = some _ at hq3; change _ = some _ at hq4; go_simp; all_goals (first | rw [hw] | skip)
            try simp only [Act.put, List.setIfInBounds_toArray, List.set_cons_zero, List.set_cons_succ, List.getElem_toArray, List.getElem_cons_succ, List.getElem_cons_zero]
            refine take_S (v := ?v17c) 17 rfl (by kernel_rfl) (by kernel_rfl) (by kernel_rfl) (by kernel_rfl) (fun _ _ _ h => h) hS (fun _ => trivial) rfl (fun w' hq => ?h17c) ?_
            case h17c => obtain ⟨hq0, hq1, hq2, hq3, hq4, -⟩ := hq; change _ = some _ at hq0; change _ = some _ at hq1; change _ = some _ at hq2; change _ = some _ at hq3; change _ = some _ at hq4; go_simp; all_goals (try with_reducible rfl)
            try simp only [Act.put, List.setIfInBounds_toArray, List.set_cons_zero, List.set_cons_succ, List.getElem_toArray, List.getElem_cons_succ, List.getElem_cons_zero]
            refine take_S (v := ?v18c) 18 rfl (by kernel_rfl) (by kernel_rfl) (by kernel_rfl) (by kernel_rfl) (fun _ _ _ h => h) hS (fun _ => trivial) rfl (fun w' hq => ?h18c) ?_
            case h18c => obtain ⟨hq0, hq1, hq2, hq3, hq4, -⟩ := hq; change _ = some _ at hq0; change _ = some _ at hq1; change _ = some _ at hq2; change _ = some _ at hq3; change _ = some _ at hq4; go_simp; all_goals (try with_reducible rfl)
            try simp only [Act.put, List.setIfInBounds_toArray, List.set_cons_zero, List.set_cons_succ, List.getElem_toArray, List.getElem_cons_succ, List.getElem_cons_zero]
            refine take_S (v := ?v19c) 19 rfl (by kernel_rfl) (by kernel_rfl) (by kernel_rfl) (by kernel_rfl) (fun _ _ _ h => h) hS (fun _ => trivial) rfl (fun w' hq => ?h19c) ?_
            case h19c => obtain ⟨hq0, hq1, hq2, hq3, hq4, -⟩ := hq; change _ = some _ at hq0; change _ = some _ at hq1; change _ = some _ at hq2; change _ = some _ at hq3; change _ = some _ at hq4; go_simp; all_goals (try with_reducible rfl)
            try simp only [Act.put, List.setIfInBounds_toArray, List.set_cons_zero, List.set_cons_succ, List.getElem_toArray, List.getElem_cons_succ, List.getElem_cons_zero]
            refine take_S (v := ?v20c) 20 rfl (by kernel_rfl) (by kernel_rfl) (by kernel_rfl) (by kernel_rfl) (fun _ _ _ h => h) hS (fun _ => trivial) rfl (fun w' hq => ?h20c) ?_
            case h20c => obtain ⟨hq0, hq1, hq2, hq3, hq4, -⟩ := hq; change _ = some _ at hq0; change _ = some _ at hq1; change _ = some _ at hq2; change _ = some _ at hq3; change _ = some _ at hq4; go_simp; all_goals (try with_reducible rfl)
            try simp only [Act.put, List.setIfInBounds_toArray, List.set_cons_zero, List.set_cons_succ, List.getElem_toArray, List.getElem_cons_succ, List.getElem_cons_zero]
            refine take_S (v := ?v21c) 21 rfl (by kernel_rfl) (by kernel_rfl) (by kernel_rfl) (by kernel_rfl) (fun _ _ _ h => h) hS (fun _ => trivial) rfl (fun w' hq => ?h21c) ?_
            case h21c => obtain ⟨hq0, hq1, hq2, hq3, hq4, -⟩ := hq; change _ = some _ at hq0; change _ = some _ at hq1; change _ = some _ at hq2; change _ = some _ at hq3; change _ = some _ at hq4; go_simp; all_goals (try with_reducible rfl)
            try simp only [Act.put, List.setIfInBounds_toArray, List.set_cons_zero, List.set_cons_succ, List.getElem_toArray, List.getElem_cons_succ, List.getElem_cons_zero]
            refine take_S (v := .int .i64 (m : Int)) 22 rfl (by kernel_rfl) (by kernel_rfl) (by kernel_rfl) (by kernel_rfl) (fun _ _ _ h => h) hS (fun _ => trivial) rfl (fun w' hq => ?h22c) ?_
            case h22c => obtain ⟨hq0, hq1, hq2, hq3, hq4, -⟩ := hq; change _ = some _ at hq0; change _ = some _ at hq1; change _ = some _ at hq2; change _ = some _ at hq3; change _ = some _ at hq4; go_simp; all_goals (first | rw [hw] | skip)
            try simp only [Act.put, List.setIfInBounds_toArray, List.set_cons_zero, List.set_cons_succ, List.getElem_toArray, List.getElem_cons_succ, List.getElem_cons_zero]
            refine take_S (v := ?v23c) 23 rfl (by kernel_rfl) (by kernel_rfl) (by kernel_rfl) (by kernel_rfl) (fun _ _ _ h => h) hS (fun _ => trivial) rfl (fun w' hq => ?h23c) ?_
            case h23c => obtain ⟨hq0, hq1, hq2, hq3, hq4, -⟩ := hq; change _ = some _ at hq0; change _ = some _ at hq1; change _ = some _ at hq2; change _ = some _ at hq3; change _ = some _ at hq4; go_simp; all_goals (try with_reducible rfl)
            try simp only [Act.put, List.setIfInBounds_toArray, List.set_cons_zero, List.set_cons_succ, List.getElem_toArray, List.getElem_cons_succ, List.getElem_cons_zero]
            refine take_S (v := ?v24c) 24 rfl (by kernel_rfl) (by kernel_rfl) (by kernel_rfl) (by kernel_rfl) (fun _ _ _ h => h) hS (fun _ => trivial) rfl (fun w' hq => ?h24c) ?_
            case h24c => obtain ⟨hq0, hq1, hq2, hq3, hq4, -⟩ := hq; change _ = some _ at hq0; change _ = some _ at hq1; change _ = some _ at hq2; change _ = some _ at hq3; change _ = some _ at hq4; go_simp; all_goals (try with_reducible rfl)
            try simp only [Act.put, List.setIfInBounds_toArray, List.set_cons_zero, List.set_cons_succ, List.getElem_toArray, List.getElem_cons_succ, List.getElem_cons_zero]
            refine take_S (v := ?v25c) 25 rfl (by kernel_rfl) (by kernel_rfl) (by kernel_rfl) (by kernel_rfl) (fun _ _ _ h => h) hS (fun _ => trivial) rfl (fun w' hq => ?h25c) ?_
            case h25c => obtain ⟨hq0, hq1, hq2, hq3, hq4, -⟩ := hq; change _ = some _ at hq0; change _ = some _ at hq1; change _ = some _ at hq2; change _ = some _ at hq3; change _ = some _ at hq4; go_simp; all_goals (try with_reducible rfl)
            try simp only [Act.put, List.setIfInBounds_toArray, List.set_cons_zero, List.set_cons_succ, List.getElem_toArray, List.getElem_cons_succ, List.getElem_cons_zero]
            refine take_S (v := .int .i64 (t1 : Int)) 26 rfl (by kernel_rfl) (by kernel_rfl) (by kernel_rfl) (by kernel_rfl) (fun _ _ _ h => h) hS (fun _ => trivial) rfl (fun w' hq => ?h26c) ?_
            case h26c => obtain ⟨hq0, hq1, hq2, hq3, hq4, -⟩ := hq; change _ = some _ at hq0; change _ = some _ at hq1; change _ = some _ at hq2; change _ = some _ at hq3; change _ = some _ at hq4; go_simp; all_goals (first | rw [hwt] | skip)
            try simp only [Act.put, List.setIfInBounds_toArray, List.set_cons_zero, List.set_cons_succ, List.getElem_toArray, List.getElem_cons_succ, List.getElem_cons_zero]
            refine take_S (v := ?v27c) 27 rfl (by kernel_rfl) (by kernel_rfl) (by kernel_rfl) (by kernel_rfl) (fun _ _ _ h => h) hS (fun _ => trivial) rfl (fun w' hq => ?h27c) ?_
            case h27c => obtain ⟨hq0, hq1, hq2, hq3, hq4, -⟩ := hq; change _ = some _ at hq0; change _ = some _ at hq1; change _ = some _ at hq2; change _ = some _ at hq3; change _ = some _ at hq4; go_simp; all_goals (try with_reducible rfl)
            try simp only [Act.put, List.setIfInBounds_toArray, List.set_cons_zero, List.set_cons_succ, List.getElem_toArray, List.getElem_cons_succ, List.getElem_cons_zero]
            refine take_S (v := ?v28c) 28 rfl (by kernel_rfl) (by kernel_rfl) (by kernel_rfl) (by kernel_rfl) (fun _ _ _ h => h) hS (fun _ => trivial) rfl (fun w' hq => ?h28c) ?_
            case h28c => obtain ⟨hq0, hq1, hq2, hq3, hq4, -⟩ := hq; change _ = some _ at hq0; change _ = some _ at hq1; change _ = some _ at hq2; change _ = some _ at hq3; change _ = some _ at hq4; go_simp; all_goals (try with_reducible rfl)
            try simp only [Act.put, List.setIfInBounds_toArray, List.set_cons_zero, List.set_cons_succ, List.getElem_toArray, List.getElem_cons_succ, List.getElem_cons_zero]
            refine take_S (v := .bool false) 29 rfl (by kernel_rfl) (by kernel_rfl) (by kernel_rfl) (by kernel_rfl) (fun _ _ _ h => h) hS (fun _ => trivial) rfl (fun w' hq => ?h29c) ?_
            case h29c => obtain ⟨hq0, hq1, hq2, hq3, hq4, -⟩ := hq; change _ = some _ at hq0; change _ = some _ at hq1; change _ = some _ at hq2; change _ = some _ at hq3; change _ = some _ at hq4; go_simp; all_goals (first | rfl | (simp; done) | (simp [hqe]))
            try simp only [Act.put, List.setIfInBounds_toArray, List.set_cons_zero, List.set_cons_succ, List.getElem_toArray, List.getElem_cons_succ, List.getElem_cons_zero]
            refine take_S (v := ?v30c) 30 rfl (by kernel_rfl) (by kernel_rfl) (by kernel_rfl) (by kernel_rfl) (fun _ _ _ h => h) hS (fun _ => trivial) rfl (fun w' hq => ?h30c) ?_
            case h30c => obtain ⟨hq0, hq1, hq2, hq3, hq4, -⟩ := hq; change _ = some _ at hq0; change _ = some _ at hq1; change _ = some _ at hq2; change _ = some _ at hq3; change _ = some _ at hq4; go_simp; all_goals (try with_reducible rfl)
            try simp only [Act.put, List.setIfInBounds_toArray, List.set_cons_zero, List.set_cons_succ, List.getElem_toArray, List.getElem_cons_succ, List.getElem_cons_zero]
            refine done_D (by kernel_rfl) ?_ _
            clear q0 q1 q2 fg hS
            have HB1 := Lib.hid (HBW.out.alloc (.cells #[.bool zs, .int .i64 (at_ : Int), .int .i64 1] 77)).drew
            have HO1 := Lib.hid (show RpcOwn (W.alloc (.cells #[.bool zs, .int .i64 (at_ : Int), .int .i64 1] 77)).drew w.heap.size (.slice (some ⟨g, 0, none⟩) n2 c2) (l ++ [⟨zs, za, zl⟩]) from own_alloc HO.out (.cells #[.bool zs, .int .i64 (at_ : Int), .int .i64 1] 77))
            have HN1 := Lib.hid (one_rpc (w := W.drew) ⟨zs, at_, 1⟩)
            have HX1 := Lib.hid (HXW.out.alloc HXW.out.size (.cells #[.bool zs, .int .i64 (at_ : Int), .int .i64 1] 77)).drew
            go_wp2_with (at_builtin; go_loud (refine wpList_append_R rfl (.tmp 65) (.tmp 71) rfl w.heap.size (.slice (some ⟨g, 0, none⟩) n2 c2) (l ++ [⟨zs, za, zl⟩]) [⟨zs, at_, 1⟩] (fun _ => True) rfl HO1.out (some ⟨W.heap.size, 0, none⟩) 1 rfl HN1.out NilOk.some (by first | (simp; done) | (simp at hol ⊢; omega)) HX1.out.size ?_; intro v' w3 ho3 hg3; obtain ⟨n3, p3, c3, rfl⟩ : ∃ n p c, v' = .slice p n c := (by obtain ⟨p, c, h⟩ := own_slice ho3; exact ⟨_, p, c, h⟩); have HO3 := Lib.hid ho3; have HB3 := Lib.hid (Blk.grown HB1.out hg3 (own_far HO1.out hb)); have HX3 := Lib.hid (HX1.out.grown hg3 HX1.out.size (fun j hj => (HO1.out.lt j hj).1)); clear ho3 hg3))
            go_roundw
            case rel => exact ⟨k + 1, n3, p3, c3, by omega, rfl, by go_num, Lib.hid ⟨HB3.out, by rw [Hts.out, Hput.out]; exact HO3.out, HX3.out⟩⟩
            case measure => simp [intOf] <;> omega
        · have hse : (zs == s) = false := by cases zs <;> cases s <;> simp_all
          have Hput := Lib.hid (show putL (l ++ [⟨zs, za, zl⟩]) ⟨s, at_, 1⟩ = l ++ [⟨zs, za, zl⟩] ++ [⟨s, at_, 1⟩] from by rw [putL_snoc]; exact if_neg (fun h => hs h.1))
          go_wp2_with fail
          generalize hWg : wr.alloc (.cells #[.int .i32 ch, .bool s, .int .i64 at_] 70) = W at *
          clear hWg
          have hS : Holds [(wr.heap.size, 1, .bool s), (wr.heap.size, 2, .int .i64 at_), (g, m * 3, .bool zs), (g, m * 3 + 1, .int .i64 za), (g, m * 3 + 2, .int .i64 zl)] W.drew := ⟨g1, g2, q0, q1, q2, trivial⟩
          refine begin_D (T := Hold0) [] (by kernel_rfl) hS (fun _ => trivial) ?_
          refine take_S (v := ?v0b) 0 rfl (by kernel_rfl) (by kernel_rfl) (by kernel_rfl) (by kernel_rfl) (fun _ _ _ h => h) hS (fun _ => trivial) rfl (fun w' hq => ?h0b) ?_
          case h0b => obtain ⟨hq0, hq1, hq2, hq3, hq4, -⟩ := hq; change _ = some _ at hq0; change _ = some _ at hq1; change _ = some _ at hq2; change _ = some _ at hq3; change _ = some _ at hq4; go_simp; all_goals (try with_reducible rfl)
          try simp only [Act.put, List.setIfInBounds_toArray, List.set_cons_zero, List.set_cons_succ, List.getElem_toArray, List.getElem_cons_succ, List.getElem_cons_zero]
          refine take_S (v := .bool true) 1 rfl (by kernel_rfl) (by kernel_rfl) (by kernel_rfl) (by kernel_rfl) (fun _ _ _ h => h) hS (fun _ => trivial) rfl (fun w' hq => ?h1b) ?_
          case h1b => obtain ⟨hq0, hq1, hq2, hq3, hq4, -⟩ := hq; change _ = some _ at hq0; change _ = some _ at hq1; change _ = some _ at hq2; change _ = some _ at hq3; change _ = some _ at hq4; go_simp; all_goals (omega)
          try simp only [Act.put, List.setIfInBounds_toArray, List.set_cons_zero, List.set_cons_succ, List.getElem_toArray, List.getElem_cons_succ, List.getElem_cons_zero]
          refine take_S (v := ?v2b) 2 rfl (by kernel_rfl) (by kernel_rfl) (by kernel_rfl) (by kernel_rfl) (fun _ _ _ h => h) hS (fun _ => trivial) rfl (fun w' hq => ?h2b) ?_
          case h2b => obtain ⟨hq0, hq1, hq2, hq3, hq4, -⟩ := hq; change _ = some _ at hq0; change _ = some _ at hq1; change _ = some _ at hq2; change _ = some _ at hq3; change _ = some _ at hq4; go_simp; all_goals (try with_reducible rfl)
          try simp only [Act.put, List.setIfInBounds_toArray, List.set_cons_zero, List.set_cons_succ, List.getElem_toArray, List.getElem_cons_succ, List.getElem_cons_zero]
          refine take_S (v := ?v3b) 3 rfl (by kernel_rfl) (by kernel_rfl) (by kernel_rfl) (by kernel_rfl) (fun _ _ _ h => h) hS (fun _ => trivial) rfl (fun w' hq => ?h3b) ?_
          case h3b => obtain ⟨hq0, hq1, hq2, hq3, hq4, -⟩ := hq; change _ = some _ at hq0; change _ = some _ at hq1; change _ = some _ at hq2; change _ = some _ at hq3; change _ = some _ at hq4; go_simp; all_goals (try with_reducible rfl)
          try simp only [Act.put, List.setIfInBounds_toArray, List.set_cons_zero, List.set_cons_succ, List.getElem_toArray, List.getElem_cons_succ, List.getElem_cons_zero]
          refine take_S (v := ?v4b) 4 rfl (by kernel_rfl) (by kernel_rfl) (by kernel_rfl) (by kernel_rfl) (fun _ _ _ h => h) hS (fun _ => trivial) rfl (fun w' hq => ?h4b) ?_
          case h4b => obtain ⟨hq0, hq1, hq2, hq3, hq4, -⟩ := hq; change _ = some _ at hq0; change _ = some _ at hq1; change _ = some _ at hq2; change _ = some _ at hq3; change _ = some _ at hq4; go_simp; all_goals (try with_reducible rfl)
          try simp only [Act.put, List.setIfInBounds_toArray, List.set_cons_zero, List.set_cons_succ, List.getElem_toArray, List.getElem_cons_succ, List.getElem_cons_zero]
          refine take_S (v := .int .i64 (m : Int)) 5 rfl (by kernel_rfl) (by kernel_rfl) (by kernel_rfl) (by kernel_rfl) (fun _ _ _ h => h) hS (fun _ => trivial) rfl (fun w' hq => ?h5b) ?_
          case h5b => obtain ⟨hq0, hq1, hq2, hq3, hq4, -⟩ := hq; change _ = some _ at hq0; change _ = some _ at hq1; change _ = some _ at hq2; change _ = some _ at hq3; change _ = some _ at hq4; go_simp; all_goals (first | rw [hw] | skip)
          try simp only [Act.put, List.setIfInBounds_toArray, List.set_cons_zero, List.set_cons_succ, List.getElem_toArray, List.getElem_cons_succ, List.getElem_cons_zero]
          refine take_S (v := ?v6b) 6 rfl (by kernel_rfl) (by kernel_rfl) (by kernel_rfl) (by kernel_rfl) (fun _ _ _ h => h) hS (fun _ => trivial) rfl (fun w' hq => ?h6b) ?_
          case h6b => obtain ⟨hq0, hq1, hq2, hq3, hq4, -⟩ := hq; change _ = some _ at hq0; change _ = some _ at hq1; change _ = some _ at hq2; change _ = some _ at hq3; change _ = some _ at hq4; go_simp; all_goals (try with_reducible rfl)
          try simp only [Act.put, List.setIfInBounds_toArray, List.set_cons_zero, List.set_cons_succ, List.getElem_toArray, List.getElem_cons_succ, List.getElem_cons_zero]
          refine take_S (v := ?v7b) 7 rfl (by kernel_rfl) (by kernel_rfl) (by kernel_rfl) (by kernel_rfl) (fun _ _ _ h => h) hS (fun _ => trivial) rfl (fun w' hq => ?h7b) ?_
          case h7b => obtain ⟨hq0, hq1, hq2, hq3, hq4, -⟩ := hq; change _ = some _ at hq0; change _ = some _ at hq1; change _ = some _ at hq2; change _ = some _ at hq3; change _ = some _ at hq4; go_simp; all_goals (try with_reducible rfl)
          try simp only [Act.put, List.setIfInBounds_toArray, List.set_cons_zero, List.set_cons_succ, List.getElem_toArray, List.getElem_cons_succ, List.getElem_cons_zero]
          refine take_S (v := ?v8b) 8 rfl (by kernel_rfl) (by kernel_rfl) (by kernel_rfl) (by kernel_rfl) (fun _ _ _ h => h) hS (fun _ => trivial) rfl (fun w' hq => ?h8b) ?_
          case h8b => obtain ⟨hq0, hq1, hq2, hq3, hq4, -⟩ := hq; change _ = some _ at hq0; change _ = some _ at hq1; change _ = some _ at hq2; change _ = some _ at hq3; change _ = some _ at hq4; go_simp; all_goals (try with_reducible rfl)
          try simp only [Act.put, List.setIfInBounds_toArray, List.set_cons_zero, List.set_cons_succ, List.getElem_toArray, List.getElem_cons_succ, List.getElem_cons_zero]
          refine take_S (v := ?v9b) 9 rfl (by kernel_rfl) (by kernel_rfl) (by kernel_rfl) (by kernel_rfl) (fun _ _ _ h => h) hS (fun _ => trivial) rfl (fun w' hq => ?h9b) ?_
          case h9b => obtain ⟨hq0, hq1, hq2, hq3, hq4, -⟩ := hq; change _ = some _ at hq0; change _ = some _ at hq1; change _ = some _ at hq2; change _ = some _ at hq3; change _ = some _ at hq4; go_simp; all_goals (try with_reducible rfl)
          try simp only [Act.put, List.setIfInBounds_toArray, List.set_cons_zero, List.set_cons_succ, List.getElem_toArray, List.getElem_cons_succ, List.getElem_cons_zero]
          refine take_S (v := ?v10b) 10 rfl (by kernel_rfl) (by kernel_rfl) (by kernel_rfl) (by kernel_rfl) (fun _ _ _ h => h) hS (fun _ => trivial) rfl (fun w' hq => ?h10b) ?_
          case h10b => obtain ⟨hq0, hq1, hq2, hq3, hq4, -⟩ := hq; change _ = some _ at hq0; change _ = some _ at hq1; change _ = some _ at hq2; change _ = some _ at hq3; change _ = some _ at hq4; go_simp; all_goals (try with_reducible rfl)
          try simp only [Act.put, List.setIfInBounds_toArray, List.set_cons_zero, List.set_cons_succ, List.getElem_toArray, List.getElem_cons_succ, List.getElem_cons_zero]
          refine take_S (v := .bool false) 11 rfl (by kernel_rfl) (by kernel_rfl) (by kernel_rfl) (by kernel_rfl) (fun _ _ _ h => h) hS (fun _ => trivial) rfl (fun w' hq => ?h11b) ?_
          case h11b => obtain ⟨hq0, hq1, hq2, hq3, hq4, -⟩ := hq; change _ = some _ at hq0; change _ = some _ at hq1; change _ = some _ at hq2; change _ = some _ at hq3; change _ = some _ at hq4; go_simp; all_goals (first | rfl | (simp; done) | (simp [hse]))
          try simp only [Act.put, List.setIfInBounds_toArray, List.set_cons_zero, List.set_cons_succ, List.getElem_toArray, List.getElem_cons_succ, List.getElem_cons_zero]
          refine take_S (v := ?v12b) 12 rfl (by kernel_rfl) (by kernel_rfl) (by kernel_rfl) (by kernel_rfl) (fun _ _ _ h => h) hS (fun _ => trivial) rfl (fun w' hq => ?h12b) ?_
          case h12b => obtain ⟨hq0, hq1, hq2, hq3, hq4, -⟩ := hq; change _ = some _ at hq0; change _ = some _ at hq1; change _ = some _ at hq2; change _ = some _ at hq3; change _ = some _ at hq4; go_simp; all_goals (try with_reducible rfl)
          try simp only [Act.put, List.setIfInBounds_toArray, List.set_cons_zero, List.set_cons_succ, List.getElem_toArray, List.getElem_cons_succ, List.getElem_cons_zero]
          refine take_S (v := ?v13b) 13 rfl (by kernel_rfl) (by kernel_rfl) (by kernel_rfl) (by kernel_rfl) (fun _ _ _ h => h) hS (fun _ => trivial) rfl (fun w' hq => ?h13b) ?_
          case h13b => obtain ⟨hq0, hq1, hq2, hq3, hq4, -⟩ := hq; change _ = some _ at hq0; change _ = some _ at hq1; change _ = some _ at hq2; change _ = some _ at hq3; change _ = some _ at hq4; go_simp; all_goals (try with_reducible rfl)
          try simp only [Act.put, List.setIfInBounds_toArray, List.set_cons_zero, List.set_cons_succ, List.getElem_toArray, List.getElem_cons_succ, List.getElem_cons_zero]
          refine take_no 14 rfl (by kernel_rfl) (by kernel_rfl) (by kernel_rfl) (by kernel_rfl) (fun _ _ _ h => h) hS (fun _ => trivial) rfl ?_
          try simp only [Act.put, List.setIfInBounds_toArray, List.set_cons_zero, List.set_cons_succ, List.getElem_toArray, List.getElem_cons_succ, List.getElem_cons_zero]
          refine take_no 15 rfl (by kernel_rfl) (by kernel_rfl) (by kernel_rfl) (by kernel_rfl) (fun _ _ _ h => h) hS (fun _ => trivial) rfl ?_
          try simp only [Act.put, List.setIfInBounds_toArray, List.set_cons_zero, List.set_cons_succ, List.getElem_toArray, List.getElem_cons_succ, List.getElem_cons_zero]
          refine take_no 16 rfl (by kernel_rfl) (by kernel_rfl) (by kernel_rfl) (by kernel_rfl) (fun _ _ _ h => h) hS (fun _ => trivial) rfl ?_
          try simp only [Act.put, List.setIfInBounds_toArray, List.set_cons_zero, List.set_cons_succ, List.getElem_toArray, List.getElem_cons_succ, List.getElem_cons_zero]
          refine take_no 17 rfl (by kernel_rfl) (by kernel_rfl) (by kernel_rfl) (by kernel_rfl) (fun _ _ _ h => h) hS (fun _ => trivial) rfl ?_
          try simp only [Act.put, List.setIfInBounds_toArray, List.set_cons_zero, List.set_cons_succ, List.getElem_toArray, List.getElem_cons_succ, List.getElem_cons_zero]
          refine take_no 18 rfl (by kernel_rfl) (by kernel_rfl) (by kernel_rfl) (by kernel_rfl) (fun _ _ _ h => h) hS (fun _ => trivial) rfl ?_
          try simp only [Act.put, List.setIfInBounds_toArray, List.set_cons_zero, List.set_cons_succ, List.getElem_toArray, List.getElem_cons_succ, List.getElem_cons_zero]
          refine take_no 19 rfl (by kernel_rfl) (by kernel_rfl) (by kernel_rfl) (by kernel_rfl) (fun _ _ _ h => h) hS (fun _ => trivial) rfl ?_
          try simp only [Act.put, List.setIfInBounds_toArray, List.set_cons_zero, List.set_cons_succ, List.getElem_toArray, List.getElem_cons_succ, List.getElem_cons_zero]
          refine take_no 20 rfl (by kernel_rfl) (by kernel_rfl) (by kernel_rfl) (by kernel_rfl) (fun _ _ _ h => h) hS (fun _ => trivial) rfl ?_
          try simp only [Act.put, List.setIfInBounds_toArray, List.set_cons_zero, List.set_cons_succ, List.getElem_toArray, List.getElem_cons_succ, List.getElem_cons_zero]
          refine take_no 21 rfl (by kernel_rfl) (by kernel_rfl) (by kernel_rfl) (by kernel_rfl) (fun _ _ _ h => h) hS (fun _ => trivial) rfl ?_
          try simp only [Act.put, List.setIfInBounds_toArray, List.set_cons_zero, List.set_cons_succ, List.getElem_toArray, List.getElem_cons_succ, List.getElem_cons_zero]
          refine take_no 22 rfl (by kernel_rfl) (by kernel_rfl) (by kernel_rfl) (by kernel_rfl) (fun _ _ _ h => h) hS (fun _ => trivial) rfl ?_
          try simp only [Act.put, List.setIfInBounds_toArray, List.set_cons_zero, List.set_cons_succ, List.getElem_toArray, List.getElem_cons_succ, List.getElem_cons_zero]
          refine take_no 23 rfl (by kernel_rfl) (by kernel_rfl) (by kernel_rfl) (by kernel_rfl) (fun _ _ _ h => h) hS (fun _ => trivial) rfl ?_
          try simp only [Act.put, List.setIfInBounds_toArray, List.set_cons_zero, List.set_cons_succ, List.getElem_toArray, List.getElem_cons_succ, List.getElem_cons_zero]
          refine take_no 24 rfl (by kernel_rfl) (by kernel_rfl) (by kernel_rfl) (by kernel_rfl) (fun _ _ _ h => h) hS (fun _ => trivial) rfl ?_
          try simp only [Act.put, List.setIfInBounds_toArray, List.set_cons_zero, List.set_cons_succ, List.getElem_toArray, List.getElem_cons_succ, List.getElem_cons_zero]
          refine take_no 25 rfl (by kernel_rfl) (by kernel_rfl) (by kernel_rfl) (by kernel_rfl) (fun _ _ _ h => h) hS (fun _ => trivial) rfl ?_
          try simp only [Act.put, List.setIfInBounds_toArray, List.set_cons_zero, List.set_cons_succ, List.getElem_toArray, List.getElem_cons_succ, List.getElem_cons_zero]
          refine take_no 26 rfl (by kernel_rfl) (by kernel_rfl) (by kernel_rfl) (by kernel_rfl) (fun _ _ _ h => h) hS (fun _ => trivial) rfl ?_
          try simp only [Act.put, List.setIfInBounds_toArray, List.set_cons_zero, List.set_cons_succ, List.getElem_toArray, List.getElem_cons_succ, List.getElem_cons_zero]
          refine take_no 27 rfl (by kernel_rfl) (by kernel_rfl) (by kernel_rfl) (by kernel_rfl) (fun _ _ _ h => h) hS (fun _ => trivial) rfl ?_
          try simp only [Act.put, List.setIfInBounds_toArray, List.set_cons_zero, List.set_cons_succ, List.getElem_toArray, List.getElem_cons_succ, List.getElem_cons_zero]
          refine take_no 28 rfl (by kernel_rfl) (by kernel_rfl) (by kernel_rfl) (by kernel_rfl) (fun _ _ _ h => h) hS (fun _ => trivial) rfl ?_
          try simp only [Act.put, List.setIfInBounds_toArray, List.set_cons_zero, List.set_cons_succ, List.getElem_toArray, List.getElem_cons_succ, List.getElem_cons_zero]
          refine take_no 29 rfl (by kernel_rfl) (by kernel_rfl) (by kernel_rfl) (by kernel_rfl) (fun _ _ _ h => h) hS (fun _ => trivial) rfl ?_
          try simp only [Act.put, List.setIfInBounds_toArray, List.set_cons_zero, List.set_cons_succ, List.getElem_toArray, List.getElem_cons_succ, List.getElem_cons_zero]
          refine take_S (v := ?v30b) 30 rfl (by kernel_rfl) (by kernel_rfl) (by kernel_rfl) (by kernel_rfl) (fun _ _ _ h => h) hS (fun _ => trivial) rfl (fun w' hq => ?h30b) ?_
          case h30b => obtain ⟨hq0, hq1, hq2, hq3, hq4, -⟩ := hq; change _ = some _ at hq0; change _ = some _ at hq1; change _ = some _ at hq2; change _ = some _ at hq3; change _ = some _ at hq4; go_simp; all_goals (try with_reducible rfl)
          try simp only [Act.put, List.setIfInBounds_toArray, List.set_cons_zero, List.set_cons_succ, List.getElem_toArray, List.getElem_cons_succ, List.getElem_cons_zero]
          refine done_D (by kernel_rfl) ?_ _
          clear q0 q1 q2 fg hS
          have HB1 := Lib.hid (HBW.out.alloc (.cells #[.bool s, .int .i64 (at_ : Int), .int .i64 1] 77)).drew
          have HO1 := Lib.hid (show RpcOwn (W.alloc (.cells #[.bool s, .int .i64 (at_ : Int), .int .i64 1] 77)).drew w.heap.size (.slice (some ⟨g, 0, none⟩) n2 c2) (l ++ [⟨zs, za, zl⟩]) from own_alloc HO.out (.cells #[.bool s, .int .i64 (at_ : Int), .int .i64 1] 77))
          have HN1 := Lib.hid (one_rpc (w := W.drew) ⟨s, at_, 1⟩)
          have HX1 := Lib.hid (HXW.out.alloc HXW.out.size (.cells #[.bool s, .int .i64 (at_ : Int), .int .i64 1] 77)).drew
          go_wp2_with (at_builtin; go_loud (refine wpList_append_R rfl (.tmp 65) (.tmp 71) rfl w.heap.size (.slice (some ⟨g, 0, none⟩) n2 c2) (l ++ [⟨zs, za, zl⟩]) [⟨s, at_, 1⟩] (fun _ => True) rfl HO1.out (some ⟨W.heap.size, 0, none⟩) 1 rfl HN1.out NilOk.some (by first | (simp; done) | (simp at hol ⊢; omega)) HX1.out.size ?_; intro v' w3 ho3 hg3; obtain ⟨n3, p3, c3, rfl⟩ : ∃ n p c, v' = .slice p n c := (by obtain ⟨p, c, h⟩ := own_slice ho3; exact ⟨_, p, c, h⟩); have HO3 := Lib.hid ho3; have HB3 := Lib.hid (Blk.grown HB1.out hg3 (own_far HO1.out hb)); have HX3 := Lib.hid (HX1.out.grown hg3 HX1.out.size (fun j hj => (HO1.out.lt j hj).1)); clear ho3 hg3))
          go_roundw
          case rel => exact ⟨k + 1, n3, p3, c3, by omega, rfl, by go_num, Lib.hid ⟨HB3.out, by rw [Hts.out, Hput.out]; exact HO3.out, HX3.out⟩⟩
          case measure => simp [intOf] <;> omega
    · obtain rfl : k = L.length := by omega
      have HO := Lib.hid (show RpcOwn wr w.heap.size (.slice p2 n2 c2) (Rf.pieces ⟨L, ad⟩) from by rw [List.take_length] at ho; exact ho)
      have HX := Lib.hid hX
      clear hBr ho hX hR
      go_wp2_with fail
      go_ret
      exact ⟨_, rfl, HO.out, HX.out⟩
end Go.Proofs.Ytelaiafpfaohfaa
