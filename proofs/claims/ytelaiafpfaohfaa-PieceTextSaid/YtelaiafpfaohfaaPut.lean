/-
  piece.joined's closure: one piece more; a neighbour that follows is joined. No condition but bounds far below what memory bears. (Printed by wip/gen_put.py.)
-/
import Derived.Test.YtelaiafpfaohfaaPart
namespace Go.Proofs.Ytelaiafpfaohfaa
open Go.RowKit
set_option linter.unusedSimpArgs false
set_option linter.unusedVariables false

def putL (out : List Pc) (p : Pc) : List Pc :=
  match out.getLast? with
  | some z => if z.second = p.second ∧ z.at_ + z.len = p.at_ then out.dropLast ++ [⟨z.second, z.at_, z.len + p.len⟩] else out ++ [p]
  | none => [p]
theorem putL_nil (p : Pc) : putL [] p = [p] := rfl
theorem putL_snoc (l : List Pc) (z p : Pc) : putL (l ++ [z]) p = if z.second = p.second ∧ z.at_ + z.len = p.at_ then l ++ [⟨z.second, z.at_, z.len + p.len⟩] else l ++ [z] ++ [p] := by
  simp [putL]
theorem own_write {w : World} {base sz n g c i : Nat} {e : TypeId} {xs : List Value} (h : w.ownsRow base e sz (.slice (some ⟨g, 0, none⟩) n c) n xs) (u : Value) : (w.setCell ⟨g, i, none⟩ u).ownsRow base e sz (.slice (some ⟨g, 0, none⟩) n c) n (xs.set i u) := by
  obtain ⟨h1, h2⟩ := h
  refine ⟨by rw [List.length_set]; exact h1, ?_⟩
  rcases h2 with ⟨h2, _⟩ | ⟨g', cap, cur, hv, hg, hh, h3, h4, h5, h6⟩
  · cases h2
  · injection hv with e1 _ e2
    injection e1 with e1
    injection e1 with e1
    subst e1
    subst e2
    refine .inr ⟨g, c, _, rfl, hg, Blk.set_ hh i u, h3, h4, by simpa using h5, ?_⟩
    rw [Array.toList_setIfInBounds, List.take_set, h6]
theorem own_pos {w : World} {base sz n : Nat} {e : TypeId} {v : Value} {xs : List Value} (h : w.ownsRow base e sz v n xs) (hn : 0 < n) : ∃ g c, v = .slice (some ⟨g, 0, none⟩) n c ∧ base ≤ g ∧ n ≤ c ∧ (∀ j u, xs[j]? = some u → w.cell? ⟨g, j, none⟩ = some u) ∧ ∀ j, w.frozen? ⟨g, j, none⟩ = false := by
  rcases h.2 with ⟨_, h2⟩ | ⟨g, cap, cur, hv, hg, hh, h3, h4, h5, h6⟩
  · omega
  · refine ⟨g, cap, hv, hg, h3, fun j u hu => ?_, fun j => Blk.frozen hh j⟩
    rw [Blk.cell hh j]
    rw [← h6, List.getElem?_take] at hu
    split at hu
    · simpa using hu
    · cases hu
theorem pcells_last (l : List Pc) (z : Pc) : (pcells (l ++ [z]))[l.length * 3]? = some (.bool z.second) ∧ (pcells (l ++ [z]))[l.length * 3 + 1]? = some (.int .i64 z.at_) ∧ (pcells (l ++ [z]))[l.length * 3 + 2]? = some (.int .i64 z.len) ∧
    ∀ m : Nat, (pcells (l ++ [z])).set (l.length * 3 + 2) (.int .i64 m) = pcells (l ++ [⟨z.second, z.at_, m⟩]) := by
  have e : ∀ z' : Pc, pcells (l ++ [z']) = pcells l ++ [.bool z'.second, .int .i64 z'.at_, .int .i64 z'.len] := fun z' => by rw [pcells_app]; rfl
  have hl := pcells_len l
  refine ⟨?_, ?_, ?_, fun m => ?_⟩
  · rw [e, ← hl, List.getElem?_append_right (Nat.le_refl _)]; simp
  · rw [e, ← hl, List.getElem?_append_right (by omega)]; simp
  · rw [e, ← hl, List.getElem?_append_right (by omega)]; simp
  · rw [e, e, ← hl, List.set_append_right _ _ (by omega)]; simp
/-- What the closure leaves. -/
def Puts (B0 B base : Nat) (w : World) (l : List Pc) (e : Ending) (w' : World) : Prop := e = .returned (.tuple #[]) ∧ ∃ v', Blk w' B 50 #[v'] ∧ PcsOwn w' base v' l ∧ Below B0 w w'

set_option maxHeartbeats 6400000 in
set_option maxRecDepth 100000 in
theorem put_any {w : World} {B0 B base : Nat} {v : Value} {out : List Pc} {p : Pc} (hB : Blk w B 50 #[v]) (ho : PcsOwn w base v out) (h0 : B0 ≤ B) (h1 : B0 ≤ base) (h2 : base ≤ w.heap.size) (hn : out.length ≤ 4000000) (hok : PcsOk out) (hp : p.at_ + p.len ≤ 70368744177664) :
    Calls Try.prog 44 #[.agg #[.bool p.second, .int .i64 p.at_, .int .i64 p.len], .pointer (some ⟨B, 0, none⟩)] w (Puts B0 B base w (putL out p)) := by
  obtain ⟨pp, c, rfl⟩ := own_slice ho
  obtain ⟨s, at_, ln⟩ := p
  simp only at hp
  have hlt := hB.lt
  have HBl := Lib.hid (hB.alloc (.cells #[.bool s, .int .i64 at_, .int .i64 ln] 58))
  have HO := Lib.hid (own_alloc ho (.cells #[.bool s, .int .i64 at_, .int .i64 ln] 58))
  have HG := Lib.hid (Blk.new w 58 #[.bool s, .int .i64 at_, .int .i64 ln])
  have HN := Lib.hid ((Below.refl B0 w).alloc (by omega) (.cells #[.bool s, .int .i64 at_, .int .i64 ln] 58))
  have Hsz := Lib.hid (show (w.alloc (.cells #[.bool s, .int .i64 at_, .int .i64 ln] 58)).heap.size = w.heap.size + 1 from by simp)
  have Hok := Lib.hid hok
  have Hlt2 := Lib.hid (fun j (hj : (Value.slice pp out.length c).ownBlock = some j) => (ho.lt j hj).2)
  clear hB ho hok
  have hsplit : out = [] ∨ ∃ l z, out = l ++ [z] := by
    rcases List.eq_nil_or_concat out with h | ⟨l, z, h⟩
    · exact .inl h
    · exact .inr ⟨l, z, by rw [h, List.concat_eq_append]⟩
  rcases hsplit with rfl | ⟨l, z, rfl⟩
  · obtain ⟨m0, f0, -⟩ := HBl.out.c1
    obtain ⟨g0, g1, g2, -, -, -, -⟩ := HG.out.c3
    simp only [List.length_nil] at m0
    go_enter Try.func44, Try.ntmps44
    go_wp2_with fail
    generalize hWg : w.alloc (.cells #[.bool s, .int .i64 at_, .int .i64 ln] 58) = W at *
    clear hWg
    have hS : Hold0 W.drew := trivial
    have hT : Hold0 W.drew := trivial
    refine begin_D [] (by kernel_rfl) hS (fun _ => hT) ?_
    refine take_S (v := ?v0a) 0 rfl (by kernel_rfl) (by kernel_rfl) (by kernel_rfl) (by kernel_rfl) (fun _ _ _ h => h) hS (fun _ => trivial) rfl (fun w' hq => ?h0a) ?_
    case h0a => go_simp; all_goals (try with_reducible rfl)
    try simp only [Act.put, List.setIfInBounds_toArray, List.set_cons_zero, List.set_cons_succ, List.getElem_toArray, List.getElem_cons_succ, List.getElem_cons_zero]
    refine take_S (v := ?v1a) 1 rfl (by kernel_rfl) (by kernel_rfl) (by kernel_rfl) (by kernel_rfl) (fun _ _ _ h => h) hS (fun _ => trivial) rfl (fun w' hq => ?h1a) ?_
    case h1a => go_simp; all_goals (try with_reducible rfl)
    try simp only [Act.put, List.setIfInBounds_toArray, List.set_cons_zero, List.set_cons_succ, List.getElem_toArray, List.getElem_cons_succ, List.getElem_cons_zero]
    refine take_S (v := ?v2a) 2 rfl (by kernel_rfl) (by kernel_rfl) (by kernel_rfl) (by kernel_rfl) (fun _ _ _ h => h) hS (fun _ => trivial) rfl (fun w' hq => ?h2a) ?_
    case h2a => go_simp; all_goals (try with_reducible rfl)
    try simp only [Act.put, List.setIfInBounds_toArray, List.set_cons_zero, List.set_cons_succ, List.getElem_toArray, List.getElem_cons_succ, List.getElem_cons_zero]
    refine take_no 3 rfl (by kernel_rfl) (by kernel_rfl) (by kernel_rfl) (by kernel_rfl) (fun _ _ _ h => h) hS (fun _ => trivial) rfl ?_
    try simp only [Act.put, List.setIfInBounds_toArray, List.set_cons_zero, List.set_cons_succ, List.getElem_toArray, List.getElem_cons_succ, List.getElem_cons_zero]
    refine take_no 4 rfl (by kernel_rfl) (by kernel_rfl) (by kernel_rfl) (by kernel_rfl) (fun _ _ _ h => h) hS (fun _ => trivial) rfl ?_
    try simp only [Act.put, List.setIfInBounds_toArray, List.set_cons_zero, List.set_cons_succ, List.getElem_toArray, List.getElem_cons_succ, List.getElem_cons_zero]
    refine take_no 5 rfl (by kernel_rfl) (by kernel_rfl) (by kernel_rfl) (by kernel_rfl) (fun _ _ _ h => h) hS (fun _ => trivial) rfl ?_
    try simp only [Act.put, List.setIfInBounds_toArray, List.set_cons_zero, List.set_cons_succ, List.getElem_toArray, List.getElem_cons_succ, List.getElem_cons_zero]
    refine take_no 6 rfl (by kernel_rfl) (by kernel_rfl) (by kernel_rfl) (by kernel_rfl) (fun _ _ _ h => h) hS (fun _ => trivial) rfl ?_
    try simp only [Act.put, List.setIfInBounds_toArray, List.set_cons_zero, List.set_cons_succ, List.getElem_toArray, List.getElem_cons_succ, List.getElem_cons_zero]
    refine take_no 7 rfl (by kernel_rfl) (by kernel_rfl) (by kernel_rfl) (by kernel_rfl) (fun _ _ _ h => h) hS (fun _ => trivial) rfl ?_
    try simp only [Act.put, List.setIfInBounds_toArray, List.set_cons_zero, List.set_cons_succ, List.getElem_toArray, List.getElem_cons_succ, List.getElem_cons_zero]
    refine take_no 8 rfl (by kernel_rfl) (by kernel_rfl) (by kernel_rfl) (by kernel_rfl) (fun _ _ _ h => h) hS (fun _ => trivial) rfl ?_
    try simp only [Act.put, List.setIfInBounds_toArray, List.set_cons_zero, List.set_cons_succ, List.getElem_toArray, List.getElem_cons_succ, List.getElem_cons_zero]
    refine take_no 9 rfl (by kernel_rfl) (by kernel_rfl) (by kernel_rfl) (by kernel_rfl) (fun _ _ _ h => h) hS (fun _ => trivial) rfl ?_
    try simp only [Act.put, List.setIfInBounds_toArray, List.set_cons_zero, List.set_cons_succ, List.getElem_toArray, List.getElem_cons_succ, List.getElem_cons_zero]
    refine take_no 10 rfl (by kernel_rfl) (by kernel_rfl) (by kernel_rfl) (by kernel_rfl) (fun _ _ _ h => h) hS (fun _ => trivial) rfl ?_
    try simp only [Act.put, List.setIfInBounds_toArray, List.set_cons_zero, List.set_cons_succ, List.getElem_toArray, List.getElem_cons_succ, List.getElem_cons_zero]
    refine take_no 11 rfl (by kernel_rfl) (by kernel_rfl) (by kernel_rfl) (by kernel_rfl) (fun _ _ _ h => h) hS (fun _ => trivial) rfl ?_
    try simp only [Act.put, List.setIfInBounds_toArray, List.set_cons_zero, List.set_cons_succ, List.getElem_toArray, List.getElem_cons_succ, List.getElem_cons_zero]
    refine take_S (v := ?v12a) 12 rfl (by kernel_rfl) (by kernel_rfl) (by kernel_rfl) (by kernel_rfl) (fun _ _ _ h => h) hS (fun _ => trivial) rfl (fun w' hq => ?h12a) ?_
    case h12a => go_simp; all_goals (try with_reducible rfl)
    try simp only [Act.put, List.setIfInBounds_toArray, List.set_cons_zero, List.set_cons_succ, List.getElem_toArray, List.getElem_cons_succ, List.getElem_cons_zero]
    refine take_S (v := ?v13a) 13 rfl (by kernel_rfl) (by kernel_rfl) (by kernel_rfl) (by kernel_rfl) (fun _ _ _ h => h) hS (fun _ => trivial) rfl (fun w' hq => ?h13a) ?_
    case h13a => go_simp; all_goals (try with_reducible rfl)
    try simp only [Act.put, List.setIfInBounds_toArray, List.set_cons_zero, List.set_cons_succ, List.getElem_toArray, List.getElem_cons_succ, List.getElem_cons_zero]
    refine take_no 14 rfl (by kernel_rfl) (by kernel_rfl) (by kernel_rfl) (by kernel_rfl) (fun _ _ _ h => h) hS (fun _ => trivial) rfl ?_
    try simp only [Act.put, List.setIfInBounds_toArray, List.set_cons_zero, List.set_cons_succ, List.getElem_toArray, List.getElem_cons_succ, List.getElem_cons_zero]
    refine take_no 15 rfl (by kernel_rfl) (by kernel_rfl) (by kernel_rfl) (by kernel_rfl) (fun _ _ _ h => h) hS (fun _ => trivial) rfl ?_
    try simp only [Act.put, List.setIfInBounds_toArray, List.set_cons_zero, List.set_cons_succ, List.getElem_toArray, List.getElem_cons_succ, List.getElem_cons_zero]
    refine take_no 16 rfl (by kernel_rfl) (by kernel_rfl) (by kernel_rfl) (by kernel_rfl) (fun _ _ _ h => h) hS (fun _ => trivial) rfl ?_
    try simp only [Act.put, List.setIfInBounds_toArray, List.set_cons_zero, List.set_cons_succ, List.getElem_toArray, List.getElem_cons_succ, List.getElem_cons_zero]
    refine take_no 17 rfl (by kernel_rfl) (by kernel_rfl) (by kernel_rfl) (by kernel_rfl) (fun _ _ _ h => h) hS (fun _ => trivial) rfl ?_
    try simp only [Act.put, List.setIfInBounds_toArray, List.set_cons_zero, List.set_cons_succ, List.getElem_toArray, List.getElem_cons_succ, List.getElem_cons_zero]
    refine take_no 18 rfl (by kernel_rfl) (by kernel_rfl) (by kernel_rfl) (by kernel_rfl) (fun _ _ _ h => h) hS (fun _ => trivial) rfl ?_
    try simp only [Act.put, List.setIfInBounds_toArray, List.set_cons_zero, List.set_cons_succ, List.getElem_toArray, List.getElem_cons_succ, List.getElem_cons_zero]
    refine take_no 19 rfl (by kernel_rfl) (by kernel_rfl) (by kernel_rfl) (by kernel_rfl) (fun _ _ _ h => h) hS (fun _ => trivial) rfl ?_
    try simp only [Act.put, List.setIfInBounds_toArray, List.set_cons_zero, List.set_cons_succ, List.getElem_toArray, List.getElem_cons_succ, List.getElem_cons_zero]
    refine take_no 20 rfl (by kernel_rfl) (by kernel_rfl) (by kernel_rfl) (by kernel_rfl) (fun _ _ _ h => h) hS (fun _ => trivial) rfl ?_
    try simp only [Act.put, List.setIfInBounds_toArray, List.set_cons_zero, List.set_cons_succ, List.getElem_toArray, List.getElem_cons_succ, List.getElem_cons_zero]
    refine take_no 21 rfl (by kernel_rfl) (by kernel_rfl) (by kernel_rfl) (by kernel_rfl) (fun _ _ _ h => h) hS (fun _ => trivial) rfl ?_
    try simp only [Act.put, List.setIfInBounds_toArray, List.set_cons_zero, List.set_cons_succ, List.getElem_toArray, List.getElem_cons_succ, List.getElem_cons_zero]
    refine take_no 22 rfl (by kernel_rfl) (by kernel_rfl) (by kernel_rfl) (by kernel_rfl) (fun _ _ _ h => h) hS (fun _ => trivial) rfl ?_
    try simp only [Act.put, List.setIfInBounds_toArray, List.set_cons_zero, List.set_cons_succ, List.getElem_toArray, List.getElem_cons_succ, List.getElem_cons_zero]
    refine take_no 23 rfl (by kernel_rfl) (by kernel_rfl) (by kernel_rfl) (by kernel_rfl) (fun _ _ _ h => h) hS (fun _ => trivial) rfl ?_
    try simp only [Act.put, List.setIfInBounds_toArray, List.set_cons_zero, List.set_cons_succ, List.getElem_toArray, List.getElem_cons_succ, List.getElem_cons_zero]
    refine take_no 24 rfl (by kernel_rfl) (by kernel_rfl) (by kernel_rfl) (by kernel_rfl) (fun _ _ _ h => h) hS (fun _ => trivial) rfl ?_
    try simp only [Act.put, List.setIfInBounds_toArray, List.set_cons_zero, List.set_cons_succ, List.getElem_toArray, List.getElem_cons_succ, List.getElem_cons_zero]
    refine take_no 25 rfl (by kernel_rfl) (by kernel_rfl) (by kernel_rfl) (by kernel_rfl) (fun _ _ _ h => h) hS (fun _ => trivial) rfl ?_
    try simp only [Act.put, List.setIfInBounds_toArray, List.set_cons_zero, List.set_cons_succ, List.getElem_toArray, List.getElem_cons_succ, List.getElem_cons_zero]
    refine take_no 26 rfl (by kernel_rfl) (by kernel_rfl) (by kernel_rfl) (by kernel_rfl) (fun _ _ _ h => h) hS (fun _ => trivial) rfl ?_
    try simp only [Act.put, List.setIfInBounds_toArray, List.set_cons_zero, List.set_cons_succ, List.getElem_toArray, List.getElem_cons_succ, List.getElem_cons_zero]
    refine take_no 27 rfl (by kernel_rfl) (by kernel_rfl) (by kernel_rfl) (by kernel_rfl) (fun _ _ _ h => h) hS (fun _ => trivial) rfl ?_
    try simp only [Act.put, List.setIfInBounds_toArray, List.set_cons_zero, List.set_cons_succ, List.getElem_toArray, List.getElem_cons_succ, List.getElem_cons_zero]
    refine take_no 28 rfl (by kernel_rfl) (by kernel_rfl) (by kernel_rfl) (by kernel_rfl) (fun _ _ _ h => h) hS (fun _ => trivial) rfl ?_
    try simp only [Act.put, List.setIfInBounds_toArray, List.set_cons_zero, List.set_cons_succ, List.getElem_toArray, List.getElem_cons_succ, List.getElem_cons_zero]
    refine take_no 29 rfl (by kernel_rfl) (by kernel_rfl) (by kernel_rfl) (by kernel_rfl) (fun _ _ _ h => h) hS (fun _ => trivial) rfl ?_
    try simp only [Act.put, List.setIfInBounds_toArray, List.set_cons_zero, List.set_cons_succ, List.getElem_toArray, List.getElem_cons_succ, List.getElem_cons_zero]
    refine take_S (v := ?v30a) 30 rfl (by kernel_rfl) (by kernel_rfl) (by kernel_rfl) (by kernel_rfl) (fun _ _ _ h => h) hS (fun _ => trivial) rfl (fun w' hq => ?h30a) ?_
    case h30a => go_simp; all_goals (try with_reducible rfl)
    try simp only [Act.put, List.setIfInBounds_toArray, List.set_cons_zero, List.set_cons_succ, List.getElem_toArray, List.getElem_cons_succ, List.getElem_cons_zero]
    refine done_D (by kernel_rfl) ?_ _
    have HO1 := Lib.hid (show PcsOwn (W.alloc (.cells #[.bool s, .int .i64 at_, .int .i64 ln] 58)).drew base (.slice pp 0 c) [] from (by unfold PcsOwn; first | exact own_alloc HO.out (.cells #[.bool s, .int .i64 at_, .int .i64 ln] 58) | (rw [← Hn'.out]; exact own_alloc HO.out (.cells #[.bool s, .int .i64 at_, .int .i64 ln] 58))))
    have HB1 := Lib.hid (HBl.out.alloc (.cells #[.bool s, .int .i64 at_, .int .i64 ln] 58)).drew
    have HN1 := Lib.hid (one_pc (w := W.drew) ⟨s, at_, ln⟩)
    have HX1 := Lib.hid (HN.out.alloc (by have := Hsz.out; omega) (.cells #[.bool s, .int .i64 at_, .int .i64 ln] 58)).drew
    go_wp2_with (at_builtin; go_loud (refine wpList_append_P rfl (.tmp 48) (.tmp 50) rfl base (.slice pp 0 c) [] [⟨s, at_, ln⟩] (fun _ => True) rfl HO1.out (some ⟨W.heap.size, 0, none⟩) 1 rfl HN1.out NilOk.some (by first | (simp; done) | (simp; omega)) (by have := Hsz.out; simp; omega) ?_; intro v' w3 ho3 hg3; obtain ⟨n3, p3, c3, rfl⟩ : ∃ n p c, v' = .slice p n c := (by obtain ⟨p, c, h⟩ := own_slice ho3; exact ⟨_, p, c, h⟩); have HO3 := Lib.hid ho3; have hB3 := Blk.grown HB1.out hg3 (fun he => own_ne HO1.out HB1.out (by decide) he.symm); have HB3 := Lib.hid hB3; have HX3 := Lib.hid (HX1.out.grown hg3 (by have := Hsz.out; simp; omega) (fun j hj => Nat.le_trans h1 (HO1.out.lt j hj).1)); obtain ⟨m3, f3, -⟩ := hB3.c1; clear hB3 ho3))
    go_end0
    exact ⟨rfl, _, HB3.out.set_ 0 _, own_set HO3.out HB3.out (by decide) 0 _, HX3.out.setCell (by first | exact h0 | (exact .inl h0)) _⟩
  · obtain ⟨zs, za, zl⟩ := z
    have hz := Hok.out ⟨zs, za, zl⟩ (by simp)
    simp only at hz
    obtain ⟨g, c', hv, hgb, hnc, hcl, hfl⟩ := own_pos HO.out (by simp)
    injection hv with hv1 _ hv2
    subst hv1
    subst hv2
    obtain ⟨p0, p1, p2, pset⟩ := pcells_last l ⟨zs, za, zl⟩
    have q0 := hcl _ _ p0
    have q1 := hcl _ _ p1
    have q2 := hcl _ _ p2
    have fg := hfl (l.length * 3 + 2)
    obtain ⟨m0, f0, -⟩ := HBl.out.c1
    obtain ⟨g0, g1, g2, -, -, -, -⟩ := HG.out.c3
    have Hset := Lib.hid pset
    clear hcl hfl p0 p1 p2 pset
    obtain ⟨n, hn'⟩ : ∃ n, n = (l ++ [(⟨zs, za, zl⟩ : Pc)]).length := ⟨_, rfl⟩
    rw [← hn'] at m0 hn HBl HO hnc
    obtain ⟨k, hk⟩ : ∃ k, k = l.length := ⟨_, rfl⟩
    rw [← hk] at q0 q1 q2 fg Hset
    have hnk : n = k + 1 := by rw [hn', hk]; simp
    have Hn' := Lib.hid hn'
    have Hk := Lib.hid hk
    have Hnk := Lib.hid hnk
    have hn0 : (0 : Int) < (n : Int) := by omega
    have hw : IntKind.i64.wrap ((n : Int) - 1) = (k : Int) := by rw [IntKind.wrap_i64]; omega
    have hkn : k < n := by omega
    have hkni : (k : Int) < (n : Int) := by omega
    have hki0 : (0 : Int) ≤ (k : Int) := by omega
    obtain ⟨t1, ht1⟩ : ∃ t, t = za + zl := ⟨_, rfl⟩
    have hwt : IntKind.i64.wrap ((za : Int) + (zl : Int)) = (t1 : Int) := by rw [IntKind.wrap_i64]; omega
    have Ht1 := Lib.hid ht1
    clear hn' hk hnk ht1
    by_cases hs : zs = s
    · subst hs
      by_cases hq : t1 = at_
      · subst hq
        have Hput := Lib.hid (show putL (l ++ [⟨zs, za, zl⟩]) ⟨zs, t1, ln⟩ = l ++ [⟨zs, za, zl + ln⟩] from by rw [putL_snoc]; exact if_pos ⟨rfl, Ht1.out.symm⟩)
        go_enter Try.func44, Try.ntmps44
        go_wp2_with fail
        generalize hWg : w.alloc (.cells #[.bool zs, .int .i64 t1, .int .i64 ln] 58) = W at *
        clear hWg
        have hS : Holds [(B, 0, .slice (some ⟨g, 0, none⟩) n c), (w.heap.size, 0, .bool zs), (w.heap.size, 1, .int .i64 t1), (w.heap.size, 2, .int .i64 ln), (g, k * 3, .bool zs), (g, k * 3 + 1, .int .i64 za), (g, k * 3 + 2, .int .i64 zl)] W.drew := ⟨m0, g0, g1, g2, q0, q1, q2, trivial⟩
        have hT : Hold0 W.drew := trivial
        refine begin_D [] (by kernel_rfl) hS (fun _ => hT) ?_
        refine take_S (v := ?v0d) 0 rfl (by kernel_rfl) (by kernel_rfl) (by kernel_rfl) (by kernel_rfl) (fun _ _ _ h => h) hS (fun _ => trivial) rfl (fun w' hq => ?h0d) ?_
        case h0d => obtain ⟨hq0, hq1, hq2, hq3, hq4, hq5, hq6, -⟩ := hq; change _ = some _ at hq0; change _ = some _ at hq1; change _ = some _ at hq2; change _ = some _ at hq3; change _ = some _ at hq4; change _ = some _ at hq5; change _ = some _ at hq6; go_simp; all_goals (try with_reducible rfl)
        try simp only [Act.put, List.setIfInBounds_toArray, List.set_cons_zero, List.set_cons_succ, List.getElem_toArray, List.getElem_cons_succ, List.getElem_cons_zero]
        refine take_S (v := .bool true) 1 rfl (by kernel_rfl) (by kernel_rfl) (by kernel_rfl) (by kernel_rfl) (fun _ _ _ h => h) hS (fun _ => trivial) rfl (fun w' hq => ?h1d) ?_
        case h1d => obtain ⟨hq0, hq1, hq2, hq3, hq4, hq5, hq6, -⟩ := hq; change _ = some _ at hq0; change _ = some _ at hq1; change _ = some _ at hq2; change _ = some _ at hq3; change _ = some _ at hq4; change _ = some _ at hq5; change _ = some _ at hq6; go_simp; all_goals (omega)
        try simp only [Act.put, List.setIfInBounds_toArray, List.set_cons_zero, List.set_cons_succ, List.getElem_toArray, List.getElem_cons_succ, List.getElem_cons_zero]
        refine take_S (v := ?v2d) 2 rfl (by kernel_rfl) (by kernel_rfl) (by kernel_rfl) (by kernel_rfl) (fun _ _ _ h => h) hS (fun _ => trivial) rfl (fun w' hq => ?h2d) ?_
        case h2d => obtain ⟨hq0, hq1, hq2, hq3, hq4, hq5, hq6, -⟩ := hq; change _ = some _ at hq0; change _ = some _ at hq1; change _ = some _ at hq2; change _ = some _ at hq3; change _ = some _ at hq4; change _ = some _ at hq5; change _ = some _ at hq6; go_simp; all_goals (try with_reducible rfl)
        try simp only [Act.put, List.setIfInBounds_toArray, List.set_cons_zero, List.set_cons_succ, List.getElem_toArray, List.getElem_cons_succ, List.getElem_cons_zero]
        refine take_S (v := ?v3d) 3 rfl (by kernel_rfl) (by kernel_rfl) (by kernel_rfl) (by kernel_rfl) (fun _ _ _ h => h) hS (fun _ => trivial) rfl (fun w' hq => ?h3d) ?_
        case h3d => obtain ⟨hq0, hq1, hq2, hq3, hq4, hq5, hq6, -⟩ := hq; change _ = some _ at hq0; change _ = some _ at hq1; change _ = some _ at hq2; change _ = some _ at hq3; change _ = some _ at hq4; change _ = some _ at hq5; change _ = some _ at hq6; go_simp; all_goals (try with_reducible rfl)
        try simp only [Act.put, List.setIfInBounds_toArray, List.set_cons_zero, List.set_cons_succ, List.getElem_toArray, List.getElem_cons_succ, List.getElem_cons_zero]
        refine take_S (v := ?v4d) 4 rfl (by kernel_rfl) (by kernel_rfl) (by kernel_rfl) (by kernel_rfl) (fun _ _ _ h => h) hS (fun _ => trivial) rfl (fun w' hq => ?h4d) ?_
        case h4d => obtain ⟨hq0, hq1, hq2, hq3, hq4, hq5, hq6, -⟩ := hq; change _ = some _ at hq0; change _ = some _ at hq1; change _ = some _ at hq2; change _ = some _ at hq3; change _ = some _ at hq4; change _ = some _ at hq5; change _ = some _ at hq6; go_simp; all_goals (try with_reducible rfl)
        try simp only [Act.put, List.setIfInBounds_toArray, List.set_cons_zero, List.set_cons_succ, List.getElem_toArray, List.getElem_cons_succ, List.getElem_cons_zero]
        refine take_S (v := .int .i64 (k : Int)) 5 rfl (by kernel_rfl) (by kernel_rfl) (by kernel_rfl) (by kernel_rfl) (fun _ _ _ h => h) hS (fun _ => trivial) rfl (fun w' hq => ?h5d) ?_
        case h5d => obtain ⟨hq0, hq1, hq2, hq3, hq4, hq5, hq6, -⟩ := hq; change _ = some _ at hq0; change _ = some _ at hq1; change _ = some _ at hq2; change _ = some _ at hq3; change _ = some _ at hq4; change _ = some _ at hq5; change _ = some _ at hq6; go_simp; all_goals (first | rw [hw] | skip)
        try simp only [Act.put, List.setIfInBounds_toArray, List.set_cons_zero, List.set_cons_succ, List.getElem_toArray, List.getElem_cons_succ, List.getElem_cons_zero]
        refine take_S (v := ?v6d) 6 rfl (by kernel_rfl) (by kernel_rfl) (by kernel_rfl) (by kernel_rfl) (fun _ _ _ h => h) hS (fun _ => trivial) rfl (fun w' hq => ?h6d) ?_
        case h6d => obtain ⟨hq0, hq1, hq2, hq3, hq4, hq5, hq6, -⟩ := hq; change _ = some _ at hq0; change _ = some _ at hq1; change _ = some _ at hq2; change _ = some _ at hq3; change _ = some _ at hq4; change _ = some _ at hq5; change _ = some _ at hq6; go_simp; all_goals (try with_reducible rfl)
        try simp only [Act.put, List.setIfInBounds_toArray, List.set_cons_zero, List.set_cons_succ, List.getElem_toArray, List.getElem_cons_succ, List.getElem_cons_zero]
        refine take_S (v := ?v7d) 7 rfl (by kernel_rfl) (by kernel_rfl) (by kernel_rfl) (by kernel_rfl) (fun _ _ _ h => h) hS (fun _ => trivial) rfl (fun w' hq => ?h7d) ?_
        case h7d => obtain ⟨hq0, hq1, hq2, hq3, hq4, hq5, hq6, -⟩ := hq; change _ = some _ at hq0; change _ = some _ at hq1; change _ = some _ at hq2; change _ = some _ at hq3; change _ = some _ at hq4; change _ = some _ at hq5; change _ = some _ at hq6; go_simp; all_goals (try with_reducible rfl)
        try simp only [Act.put, List.setIfInBounds_toArray, List.set_cons_zero, List.set_cons_succ, List.getElem_toArray, List.getElem_cons_succ, List.getElem_cons_zero]
        refine take_S (v := ?v8d) 8 rfl (by kernel_rfl) (by kernel_rfl) (by kernel_rfl) (by kernel_rfl) (fun _ _ _ h => h) hS (fun _ => trivial) rfl (fun w' hq => ?h8d) ?_
        case h8d => obtain ⟨hq0, hq1, hq2, hq3, hq4, hq5, hq6, -⟩ := hq; change _ = some _ at hq0; change _ = some _ at hq1; change _ = some _ at hq2; change _ = some _ at hq3; change _ = some _ at hq4; change _ = some _ at hq5; change _ = some _ at hq6; go_simp; all_goals (try with_reducible rfl)
        try simp only [Act.put, List.setIfInBounds_toArray, List.set_cons_zero, List.set_cons_succ, List.getElem_toArray, List.getElem_cons_succ, List.getElem_cons_zero]
        refine take_S (v := ?v9d) 9 rfl (by kernel_rfl) (by kernel_rfl) (by kernel_rfl) (by kernel_rfl) (fun _ _ _ h => h) hS (fun _ => trivial) rfl (fun w' hq => ?h9d) ?_
        case h9d => obtain ⟨hq0, hq1, hq2, hq3, hq4, hq5, hq6, -⟩ := hq; change _ = some _ at hq0; change _ = some _ at hq1; change _ = some _ at hq2; change _ = some _ at hq3; change _ = some _ at hq4; change _ = some _ at hq5; change _ = some _ at hq6; go_simp; all_goals (try with_reducible rfl)
        try simp only [Act.put, List.setIfInBounds_toArray, List.set_cons_zero, List.set_cons_succ, List.getElem_toArray, List.getElem_cons_succ, List.getElem_cons_zero]
        refine take_S (v := ?v10d) 10 rfl (by kernel_rfl) (by kernel_rfl) (by kernel_rfl) (by kernel_rfl) (fun _ _ _ h => h) hS (fun _ => trivial) rfl (fun w' hq => ?h10d) ?_
        case h10d => obtain ⟨hq0, hq1, hq2, hq3, hq4, hq5, hq6, -⟩ := hq; change _ = some _ at hq0; change _ = some _ at hq1; change _ = some _ at hq2; change _ = some _ at hq3; change _ = some _ at hq4; change _ = some _ at hq5; change _ = some _ at hq6; go_simp; all_goals (try with_reducible rfl)
        try simp only [Act.put, List.setIfInBounds_toArray, List.set_cons_zero, List.set_cons_succ, List.getElem_toArray, List.getElem_cons_succ, List.getElem_cons_zero]
        refine take_S (v := .bool true) 11 rfl (by kernel_rfl) (by kernel_rfl) (by kernel_rfl) (by kernel_rfl) (fun _ _ _ h => h) hS (fun _ => trivial) rfl (fun w' hq => ?h11d) ?_
        case h11d => obtain ⟨hq0, hq1, hq2, hq3, hq4, hq5, hq6, -⟩ := hq; change _ = some _ at hq0; change _ = some _ at hq1; change _ = some _ at hq2; change _ = some _ at hq3; change _ = some _ at hq4; change _ = some _ at hq5; change _ = some _ at hq6; go_simp; all_goals (first | rfl | (simp; done) | (simp [hse]))
        try simp only [Act.put, List.setIfInBounds_toArray, List.set_cons_zero, List.set_cons_succ, List.getElem_toArray, List.getElem_cons_succ, List.getElem_cons_zero]
        refine take_S (v := ?v12d) 12 rfl (by kernel_rfl) (by kernel_rfl) (by kernel_rfl) (by kernel_rfl) (fun _ _ _ h => h) hS (fun _ => trivial) rfl (fun w' hq => ?h12d) ?_
        case h12d => obtain ⟨hq0, hq1, hq2, hq3, hq4, hq5, hq6, -⟩ := hq; change _ = some _ at hq0; change _ = some _ at hq1; change _ = some _ at hq2; change _ = some _ at hq3; change _ = some _ at hq4; change _ = some _ at hq5; change _ = some _ at hq6; go_simp; all_goals (try with_reducible rfl)
        try simp only [Act.put, List.setIfInBounds_toArray, List.set_cons_zero, List.set_cons_succ, List.getElem_toArray, List.getElem_cons_succ, List.getElem_cons_zero]
        refine take_S (v := ?v13d) 13 rfl (by kernel_rfl) (by kernel_rfl) (by kernel_rfl) (by kernel_rfl) (fun _ _ _ h => h) hS (fun _ => trivial) rfl (fun w' hq => ?h13d) ?_
        case h13d => obtain ⟨hq0, hq1, hq2, hq3, hq4, hq5, hq6, -⟩ := hq; change _ = some _ at hq0; change _ = some _ at hq1; change _ = some _ at hq2; change _ = some _ at hq3; change _ = some _ at hq4; change _ = some _ at hq5; change _ = some _ at hq6; go_simp; all_goals (try with_reducible rfl)
        try simp only [Act.put, List.setIfInBounds_toArray, List.set_cons_zero, List.set_cons_succ, List.getElem_toArray, List.getElem_cons_succ, List.getElem_cons_zero]
        refine take_S (v := ?v14d) 14 rfl (by kernel_rfl) (by kernel_rfl) (by kernel_rfl) (by kernel_rfl) (fun _ _ _ h => h) hS (fun _ => trivial) rfl (fun w' hq => ?h14d) ?_
        case h14d => obtain ⟨hq0, hq1, hq2, hq3, hq4, hq5, hq6, -⟩ := hq; change _ = some _ at hq0; change _ = some _ at hq1; change _ = some _ at hq2; change _ = some _ at hq3; change _ = some _ at hq4; change _ = some _ at hq5; change _ = some _ at hq6; go_simp; all_goals (try with_reducible rfl)
        try simp only [Act.put, List.setIfInBounds_toArray, List.set_cons_zero, List.set_cons_succ, List.getElem_toArray, List.getElem_cons_succ, List.getElem_cons_zero]
        refine take_S (v := ?v15d) 15 rfl (by kernel_rfl) (by kernel_rfl) (by kernel_rfl) (by kernel_rfl) (fun _ _ _ h => h) hS (fun _ => trivial) rfl (fun w' hq => ?h15d) ?_
        case h15d => obtain ⟨hq0, hq1, hq2, hq3, hq4, hq5, hq6, -⟩ := hq; change _ = some _ at hq0; change _ = some _ at hq1; change _ = some _ at hq2; change _ = some _ at hq3; change _ = some _ at hq4; change _ = some _ at hq5; change _ = some _ at hq6; go_simp; all_goals (try with_reducible rfl)
        try simp only [Act.put, List.setIfInBounds_toArray, List.set_cons_zero, List.set_cons_succ, List.getElem_toArray, List.getElem_cons_succ, List.getElem_cons_zero]
        refine take_S (v := .int .i64 (k : Int)) 16 rfl (by kernel_rfl) (by kernel_rfl) (by kernel_rfl) (by kernel_rfl) (fun _ _ _ h => h) hS (fun _ => trivial) rfl (fun w' hq => ?h16d) ?_
        case h16d => obtain ⟨hq0, hq1, hq2, hq3, hq4, hq5, hq6, -⟩ := hq; change _ = some _ at hq0; change _ = some _ at hq1; change _ = some _ at hq2; change _ = some _ at hq3; change _ = some _ at hq4; change _ = some _ at hq5; change _ = some _ at hq6; go_simp; all_goals (first | rw [hw] | skip)
        try simp only [Act.put, List.setIfInBounds_toArray, List.set_cons_zero, List.set_cons_succ, List.getElem_toArray, List.getElem_cons_succ, List.getElem_cons_zero]
        refine take_S (v := ?v17d) 17 rfl (by kernel_rfl) (by kernel_rfl) (by kernel_rfl) (by kernel_rfl) (fun _ _ _ h => h) hS (fun _ => trivial) rfl (fun w' hq => ?h17d) ?_
        case h17d => obtain ⟨hq0, hq1, hq2, hq3, hq4, hq5, hq6, -⟩ := hq; change _ = some _ at hq0; change _ = some _ at hq1; change _ = some _ at hq2; change _ = some _ at hq3; change _ = some _ at hq4; change _ = some _ at hq5; change _ = some _ at hq6; go_simp; all_goals (try with_reducible rfl)
        try simp only [Act.put, List.setIfInBounds_toArray, List.set_cons_zero, List.set_cons_succ, List.getElem_toArray, List.getElem_cons_succ, List.getElem_cons_zero]
        refine take_S (v := ?v18d) 18 rfl (by kernel_rfl) (by kernel_rfl) (by kernel_rfl) (by kernel_rfl) (fun _ _ _ h => h) hS (fun _ => trivial) rfl (fun w' hq => ?h18d) ?_
        case h18d => obtain ⟨hq0, hq1, hq2, hq3, hq4, hq5, hq6, -⟩ := hq; change _ = some _ at hq0; change _ = some _ at hq1; change _ = some _ at hq2; change _ = some _ at hq3; change _ = some _ at hq4; change _ = some _ at hq5; change _ = some _ at hq6; go_simp; all_goals (try with_reducible rfl)
        try simp only [Act.put, List.setIfInBounds_toArray, List.set_cons_zero, List.set_cons_succ, List.getElem_toArray, List.getElem_cons_succ, List.getElem_cons_zero]
        refine take_S (v := ?v19d) 19 rfl (by kernel_rfl) (by kernel_rfl) (by kernel_rfl) (by kernel_rfl) (fun _ _ _ h => h) hS (fun _ => trivial) rfl (fun w' hq => ?h19d) ?_
        case h19d => obtain ⟨hq0, hq1, hq2, hq3, hq4, hq5, hq6, -⟩ := hq; change _ = some _ at hq0; change _ = some _ at hq1; change _ = some _ at hq2; change _ = some _ at hq3; change _ = some _ at hq4; change _ = some _ at hq5; change _ = some _ at hq6; go_simp; all_goals (try with_reducible rfl)
        try simp only [Act.put, List.setIfInBounds_toArray, List.set_cons_zero, List.set_cons_succ, List.getElem_toArray, List.getElem_cons_succ, List.getElem_cons_zero]
        refine take_S (v := ?v20d) 20 rfl (by kernel_rfl) (by kernel_rfl) (by kernel_rfl) (by kernel_rfl) (fun _ _ _ h => h) hS (fun _ => trivial) rfl (fun w' hq => ?h20d) ?_
        case h20d => obtain ⟨hq0, hq1, hq2, hq3, hq4, hq5, hq6, -⟩ := hq; change _ = some _ at hq0; change _ = some _ at hq1; change _ = some _ at hq2; change _ = some _ at hq3; change _ = some _ at hq4; change _ = some _ at hq5; change _ = some _ at hq6; go_simp; all_goals (try with_reducible rfl)
        try simp only [Act.put, List.setIfInBounds_toArray, List.set_cons_zero, List.set_cons_succ, List.getElem_toArray, List.getElem_cons_succ, List.getElem_cons_zero]
        refine take_S (v := ?v21d) 21 rfl (by kernel_rfl) (by kernel_rfl) (by kernel_rfl) (by kernel_rfl) (fun _ _ _ h => h) hS (fun _ => trivial) rfl (fun w' hq => ?h21d) ?_
        case h21d => obtain ⟨hq0, hq1, hq2, hq3, hq4, hq5, hq6, -⟩ := hq; change _ = some _ at hq0; change _ = some _ at hq1; change _ = some _ at hq2; change _ = some _ at hq3; change _ = some _ at hq4; change _ = some _ at hq5; change _ = some _ at hq6; go_simp; all_goals (try with_reducible rfl)
        try simp only [Act.put, List.setIfInBounds_toArray, List.set_cons_zero, List.set_cons_succ, List.getElem_toArray, List.getElem_cons_succ, List.getElem_cons_zero]
        refine take_S (v := .int .i64 (k : Int)) 22 rfl (by kernel_rfl) (by kernel_rfl) (by kernel_rfl) (by kernel_rfl) (fun _ _ _ h => h) hS (fun _ => trivial) rfl (fun w' hq => ?h22d) ?_
        case h22d => obtain ⟨hq0, hq1, hq2, hq3, hq4, hq5, hq6, -⟩ := hq; change _ = some _ at hq0; change _ = some _ at hq1; change _ = some _ at hq2; change _ = some _ at hq3; change _ = some _ at hq4; change _ = some _ at hq5; change _ = some _ at hq6; go_simp; all_goals (first | rw [hw] | skip)
        try simp only [Act.put, List.setIfInBounds_toArray, List.set_cons_zero, List.set_cons_succ, List.getElem_toArray, List.getElem_cons_succ, List.getElem_cons_zero]
        refine take_S (v := ?v23d) 23 rfl (by kernel_rfl) (by kernel_rfl) (by kernel_rfl) (by kernel_rfl) (fun _ _ _ h => h) hS (fun _ => trivial) rfl (fun w' hq => ?h23d) ?_
        case h23d => obtain ⟨hq0, hq1, hq2, hq3, hq4, hq5, hq6, -⟩ := hq; change _ = some _ at hq0; change _ = some _ at hq1; change _ = some _ at hq2; change _ = some _ at hq3; change _ = some _ at hq4; change _ = some _ at hq5; change _ = some _ at hq6; go_simp; all_goals (try with_reducible rfl)
        try simp only [Act.put, List.setIfInBounds_toArray, List.set_cons_zero, List.set_cons_succ, List.getElem_toArray, List.getElem_cons_succ, List.getElem_cons_zero]
        refine take_S (v := ?v24d) 24 rfl (by kernel_rfl) (by kernel_rfl) (by kernel_rfl) (by kernel_rfl) (fun _ _ _ h => h) hS (fun _ => trivial) rfl (fun w' hq => ?h24d) ?_
        case h24d => obtain ⟨hq0, hq1, hq2, hq3, hq4, hq5, hq6, -⟩ := hq; change _ = some _ at hq0; change _ = some _ at hq1; change _ = some _ at hq2; change _ = some _ at hq3; change _ = some _ at hq4; change _ = some _ at hq5; change _ = some _ at hq6; go_simp; all_goals (try with_reducible rfl)
        try simp only [Act.put, List.setIfInBounds_toArray, List.set_cons_zero, List.set_cons_succ, List.getElem_toArray, List.getElem_cons_succ, List.getElem_cons_zero]
        refine take_S (v := ?v25d) 25 rfl (by kernel_rfl) (by kernel_rfl) (by kernel_rfl) (by kernel_rfl) (fun _ _ _ h => h) hS (fun _ => trivial) rfl (fun w' hq => ?h25d) ?_
        case h25d => obtain ⟨hq0, hq1, hq2, hq3, hq4, hq5, hq6, -⟩ := hq; change _ = some _ at hq0; change _ = some _ at hq1; change _ = some _ at hq2; change _ = some _ at hq3; change _ = some _ at hq4; change _ = some _ at hq5; change _ = some _ at hq6; go_simp; all_goals (try with_reducible rfl)
        try simp only [Act.put, List.setIfInBounds_toArray, List.set_cons_zero, List.set_cons_succ, List.getElem_toArray, List.getElem_cons_succ, List.getElem_cons_zero]
        refine take_S (v := .int .i64 (t1 : Int)) 26 rfl (by kernel_rfl) (by kernel_rfl) (by kernel_rfl) (by kernel_rfl) (fun _ _ _ h => h) hS (fun _ => trivial) rfl (fun w' hq => ?h26d) ?_
        case h26d => obtain ⟨hq0, hq1, hq2, hq3, hq4, hq5, hq6, -⟩ := hq; change _ = some _ at hq0; change _ = some _ at hq1; change _ = some _ at hq2; change _ = some _ at hq3; change _ = some _ at hq4; change _ = some _ at hq5; change _ = some _ at hq6; go_simp; all_goals (first | rw [hwt] | skip)
        try simp only [Act.put, List.setIfInBounds_toArray, List.set_cons_zero, List.set_cons_succ, List.getElem_toArray, List.getElem_cons_succ, List.getElem_cons_zero]
        refine take_S (v := ?v27d) 27 rfl (by kernel_rfl) (by kernel_rfl) (by kernel_rfl) (by kernel_rfl) (fun _ _ _ h => h) hS (fun _ => trivial) rfl (fun w' hq => ?h27d) ?_
        case h27d => obtain ⟨hq0, hq1, hq2, hq3, hq4, hq5, hq6, -⟩ := hq; change _ = some _ at hq0; change _ = some _ at hq1; change _ = some _ at hq2; change _ = some _ at hq3; change _ = some _ at hq4; change _ = some _ at hq5; change _ = some _ at hq6; go_simp; all_goals (try with_reducible rfl)
        try simp only [Act.put, List.setIfInBounds_toArray, List.set_cons_zero, List.set_cons_succ, List.getElem_toArray, List.getElem_cons_succ, List.getElem_cons_zero]
        refine take_S (v := ?v28d) 28 rfl (by kernel_rfl) (by kernel_rfl) (by kernel_rfl) (by kernel_rfl) (fun _ _ _ h => h) hS (fun _ => trivial) rfl (fun w' hq => ?h28d) ?_
        case h28d => obtain ⟨hq0, hq1, hq2, hq3, hq4, hq5, hq6, -⟩ := hq; change _ = some _ at hq0; change _ = some _ at hq1; change _ = some _ at hq2; change _ = some _ at hq3; change _ = some _ at hq4; change _ = some _ at hq5; change _ = some _ at hq6; go_simp; all_goals (try with_reducible rfl)
        try simp only [Act.put, List.setIfInBounds_toArray, List.set_cons_zero, List.set_cons_succ, List.getElem_toArray, List.getElem_cons_succ, List.getElem_cons_zero]
        refine take_S (v := .bool true) 29 rfl (by kernel_rfl) (by kernel_rfl) (by kernel_rfl) (by kernel_rfl) (fun _ _ _ h => h) hS (fun _ => trivial) rfl (fun w' hq => ?h29d) ?_
        case h29d => obtain ⟨hq0, hq1, hq2, hq3, hq4, hq5, hq6, -⟩ := hq; change _ = some _ at hq0; change _ = some _ at hq1; change _ = some _ at hq2; change _ = some _ at hq3; change _ = some _ at hq4; change _ = some _ at hq5; change _ = some _ at hq6; go_simp; all_goals (first | rfl | (simp; done) | (simp [hqe]))
        try simp only [Act.put, List.setIfInBounds_toArray, List.set_cons_zero, List.set_cons_succ, List.getElem_toArray, List.getElem_cons_succ, List.getElem_cons_zero]
        refine take_S (v := ?v30d) 30 rfl (by kernel_rfl) (by kernel_rfl) (by kernel_rfl) (by kernel_rfl) (fun _ _ _ h => h) hS (fun _ => trivial) rfl (fun w' hq => ?h30d) ?_
        case h30d => obtain ⟨hq0, hq1, hq2, hq3, hq4, hq5, hq6, -⟩ := hq; change _ = some _ at hq0; change _ = some _ at hq1; change _ = some _ at hq2; change _ = some _ at hq3; change _ = some _ at hq4; change _ = some _ at hq5; change _ = some _ at hq6; go_simp; all_goals (try with_reducible rfl)
        try simp only [Act.put, List.setIfInBounds_toArray, List.set_cons_zero, List.set_cons_succ, List.getElem_toArray, List.getElem_cons_succ, List.getElem_cons_zero]
        refine done_D (by kernel_rfl) ?_ _
        have hneB : B ≠ g := fun e => own_ne HO.out HBl.out (by decide) (by rw [e]; rfl)
        have hneG : w.heap.size ≠ g := fun e => by have := Hlt2.out g rfl; omega
        obtain ⟨y1, hy1⟩ : ∃ t, t = zl + ln := ⟨_, rfl⟩
        have hwy : IntKind.i64.wrap ((zl : Int) + (ln : Int)) = (y1 : Int) := by have := Ht1.out; rw [IntKind.wrap_i64]; omega
        have Hy1 := Lib.hid hy1
        clear hy1
        go_wp2_with fail
        clear hS hT
        have hS : Holds [(B, 0, .slice (some ⟨g, 0, none⟩) n c), (w.heap.size, 0, .bool zs), (w.heap.size, 1, .int .i64 t1), (w.heap.size, 2, .int .i64 ln)] W.drew.drew := ⟨m0, g0, g1, g2, trivial⟩
        have hT : noLate [11] (Array.replicate 12 false) = true → Hold1 (g, k * 3 + 2, .int .i64 zl) W.drew.drew := fun _ => q2
        refine begin_D [11] (by kernel_rfl) hS hT ?_
        replace hT := hT rfl
        refine take_S (v := ?v0e) 0 rfl (by kernel_rfl) (by kernel_rfl) (by kernel_rfl) (by kernel_rfl) (fun _ _ _ h => h) hS (fun _ => hT) rfl (fun w' hq => ?h0e) ?_
        case h0e => obtain ⟨hq0, hq1, hq2, hq3, -⟩ := hq; change _ = some _ at hq0; change _ = some _ at hq1; change _ = some _ at hq2; change _ = some _ at hq3; go_simp; all_goals (try with_reducible rfl)
        try simp only [Act.put, List.setIfInBounds_toArray, List.set_cons_zero, List.set_cons_succ, List.getElem_toArray, List.getElem_cons_succ, List.getElem_cons_zero]
        refine take_S (v := ?v1e) 1 rfl (by kernel_rfl) (by kernel_rfl) (by kernel_rfl) (by kernel_rfl) (fun _ _ _ h => h) hS (fun _ => hT) rfl (fun w' hq => ?h1e) ?_
        case h1e => obtain ⟨hq0, hq1, hq2, hq3, -⟩ := hq; change _ = some _ at hq0; change _ = some _ at hq1; change _ = some _ at hq2; change _ = some _ at hq3; go_simp; all_goals (try with_reducible rfl)
        try simp only [Act.put, List.setIfInBounds_toArray, List.set_cons_zero, List.set_cons_succ, List.getElem_toArray, List.getElem_cons_succ, List.getElem_cons_zero]
        refine take_S (v := .int .i64 (k : Int)) 2 rfl (by kernel_rfl) (by kernel_rfl) (by kernel_rfl) (by kernel_rfl) (fun _ _ _ h => h) hS (fun _ => hT) rfl (fun w' hq => ?h2e) ?_
        case h2e => obtain ⟨hq0, hq1, hq2, hq3, -⟩ := hq; change _ = some _ at hq0; change _ = some _ at hq1; change _ = some _ at hq2; change _ = some _ at hq3; go_simp; all_goals (first | rw [hw] | skip)
        try simp only [Act.put, List.setIfInBounds_toArray, List.set_cons_zero, List.set_cons_succ, List.getElem_toArray, List.getElem_cons_succ, List.getElem_cons_zero]
        refine take_S (v := ?v3e) 3 rfl (by kernel_rfl) (by kernel_rfl) (by kernel_rfl) (by kernel_rfl) (fun _ _ _ h => h) hS (fun _ => hT) rfl (fun w' hq => ?h3e) ?_
        case h3e => obtain ⟨hq0, hq1, hq2, hq3, -⟩ := hq; change _ = some _ at hq0; change _ = some _ at hq1; change _ = some _ at hq2; change _ = some _ at hq3; go_simp; all_goals (try with_reducible rfl)
        try simp only [Act.put, List.setIfInBounds_toArray, List.set_cons_zero, List.set_cons_succ, List.getElem_toArray, List.getElem_cons_succ, List.getElem_cons_zero]
        refine take_S (v := ?v4e) 4 rfl (by kernel_rfl) (by kernel_rfl) (by kernel_rfl) (by kernel_rfl) (fun _ _ _ h => h) hS (fun _ => hT) rfl (fun w' hq => ?h4e) ?_
        case h4e => obtain ⟨hq0, hq1, hq2, hq3, -⟩ := hq; change _ = some _ at hq0; change _ = some _ at hq1; change _ = some _ at hq2; change _ = some _ at hq3; go_simp; all_goals (try with_reducible rfl)
        try simp only [Act.put, List.setIfInBounds_toArray, List.set_cons_zero, List.set_cons_succ, List.getElem_toArray, List.getElem_cons_succ, List.getElem_cons_zero]
        refine take_T (v := ?v5e) 5 rfl (by kernel_rfl) (by kernel_rfl) (by kernel_rfl) (by kernel_rfl) (by kernel_rfl) (by kernel_rfl) (fun _ _ _ h => h) hS (fun _ => hT) rfl (fun w' hq hr => ?h5e) ?_
        case h5e => obtain ⟨hq0, hq1, hq2, hq3, -⟩ := hq; change _ = some _ at hq0; change _ = some _ at hq1; change _ = some _ at hq2; change _ = some _ at hq3; change _ = some _ at hr; go_simp; try with_reducible rfl
        try simp only [Act.put, List.setIfInBounds_toArray, List.set_cons_zero, List.set_cons_succ, List.getElem_toArray, List.getElem_cons_succ, List.getElem_cons_zero]
        refine take_S (v := ?v6e) 6 rfl (by kernel_rfl) (by kernel_rfl) (by kernel_rfl) (by kernel_rfl) (fun _ _ _ h => h) hS (fun _ => hT) rfl (fun w' hq => ?h6e) ?_
        case h6e => obtain ⟨hq0, hq1, hq2, hq3, -⟩ := hq; change _ = some _ at hq0; change _ = some _ at hq1; change _ = some _ at hq2; change _ = some _ at hq3; go_simp; all_goals (try with_reducible rfl)
        try simp only [Act.put, List.setIfInBounds_toArray, List.set_cons_zero, List.set_cons_succ, List.getElem_toArray, List.getElem_cons_succ, List.getElem_cons_zero]
        refine take_S (v := ?v7e) 7 rfl (by kernel_rfl) (by kernel_rfl) (by kernel_rfl) (by kernel_rfl) (fun _ _ _ h => h) hS (fun _ => hT) rfl (fun w' hq => ?h7e) ?_
        case h7e => obtain ⟨hq0, hq1, hq2, hq3, -⟩ := hq; change _ = some _ at hq0; change _ = some _ at hq1; change _ = some _ at hq2; change _ = some _ at hq3; go_simp; all_goals (try with_reducible rfl)
        try simp only [Act.put, List.setIfInBounds_toArray, List.set_cons_zero, List.set_cons_succ, List.getElem_toArray, List.getElem_cons_succ, List.getElem_cons_zero]
        refine take_S (v := .int .i64 (y1 : Int)) 8 rfl (by kernel_rfl) (by kernel_rfl) (by kernel_rfl) (by kernel_rfl) (fun _ _ _ h => h) hS (fun _ => hT) rfl (fun w' hq => ?h8e) ?_
        case h8e => obtain ⟨hq0, hq1, hq2, hq3, -⟩ := hq; change _ = some _ at hq0; change _ = some _ at hq1; change _ = some _ at hq2; change _ = some _ at hq3; go_simp; all_goals (first | rw [hwy] | skip)
        try simp only [Act.put, List.setIfInBounds_toArray, List.set_cons_zero, List.set_cons_succ, List.getElem_toArray, List.getElem_cons_succ, List.getElem_cons_zero]
        refine take_S (v := ?v9e) 9 rfl (by kernel_rfl) (by kernel_rfl) (by kernel_rfl) (by kernel_rfl) (fun _ _ _ h => h) hS (fun _ => hT) rfl (fun w' hq => ?h9e) ?_
        case h9e => obtain ⟨hq0, hq1, hq2, hq3, -⟩ := hq; change _ = some _ at hq0; change _ = some _ at hq1; change _ = some _ at hq2; change _ = some _ at hq3; go_simp; all_goals (try with_reducible rfl)
        try simp only [Act.put, List.setIfInBounds_toArray, List.set_cons_zero, List.set_cons_succ, List.getElem_toArray, List.getElem_cons_succ, List.getElem_cons_zero]
        refine take_S (v := ?v10e) 10 rfl (by kernel_rfl) (by kernel_rfl) (by kernel_rfl) (by kernel_rfl) (fun _ _ _ h => h) hS (fun _ => hT) rfl (fun w' hq => ?h10e) ?_
        case h10e => obtain ⟨hq0, hq1, hq2, hq3, -⟩ := hq; change _ = some _ at hq0; change _ = some _ at hq1; change _ = some _ at hq2; change _ = some _ at hq3; go_simp; all_goals (try with_reducible rfl)
        try simp only [Act.put, List.setIfInBounds_toArray, List.set_cons_zero, List.set_cons_succ, List.getElem_toArray, List.getElem_cons_succ, List.getElem_cons_zero]
        refine one_D 11 rfl (by kernel_rfl) (fun KQ hK => ?_)
        have fg' : W.drew.drew.frozen? ⟨g, k * 3 + 2, none⟩ = false := fg
        have hT' : W.drew.drew.cell? ⟨g, k * 3 + 2, none⟩ = some (.int .i64 zl) := hT
        go_simp
        refine hK.out _ _ ⟨(cell_far hneB).trans m0, (cell_far hneG).trans g0, (cell_far hneG).trans g1, (cell_far hneG).trans g2, trivial⟩ (fun h => absurd h (by decide)) ?_
        refine done_D (by kernel_rfl) ?_ _
        go_wp2_with fail
        refine bodyPost_ret (v := .tuple #[]) (results_none rfl _ _ _) rfl ?_
        have ho1 : W.ownsRow base 58 3 (.slice (some ⟨g, 0, none⟩) n c) n (pcells (l ++ [⟨zs, za, zl⟩])) := HO.out
        have ho2 := own_write (i := k * 3 + 2) ho1 (.int .i64 (y1 : Int))
        rw [Hset.out y1] at ho2
        refine ⟨rfl, _, HBl.out.far hneB _, ?_, (HN.out.setCell (p := ⟨g, k * 3 + 2, none⟩) (Nat.le_trans h1 hgb) _).drew.drew⟩
        rw [Hput.out]
        unfold PcsOwn
        rw [show (l ++ [(⟨zs, za, zl + ln⟩ : Pc)]).length = n from by rw [Hn'.out]; simp, ← Hy1.out]
        exact ho2
      · have hqe : ((t1 : Int) == (at_ : Int)) = false := by rw [beq_eq_false_iff_ne]; omega
        have Hput := Lib.hid (show putL (l ++ [⟨zs, za, zl⟩]) ⟨zs, at_, ln⟩ = l ++ [⟨zs, za, zl⟩] ++ [⟨zs, at_, ln⟩] from by rw [putL_snoc]; exact if_neg (fun h => hq (Ht1.out.trans h.2)))
        go_enter Try.func44, Try.ntmps44
        go_wp2_with fail
        generalize hWg : w.alloc (.cells #[.bool zs, .int .i64 at_, .int .i64 ln] 58) = W at *
        clear hWg
        have hS : Holds [(B, 0, .slice (some ⟨g, 0, none⟩) n c), (w.heap.size, 0, .bool zs), (w.heap.size, 1, .int .i64 at_), (w.heap.size, 2, .int .i64 ln), (g, k * 3, .bool zs), (g, k * 3 + 1, .int .i64 za), (g, k * 3 + 2, .int .i64 zl)] W.drew := ⟨m0, g0, g1, g2, q0, q1, q2, trivial⟩
        have hT : Hold0 W.drew := trivial
        refine begin_D [] (by kernel_rfl) hS (fun _ => hT) ?_
        refine take_S (v := ?v0c) 0 rfl (by kernel_rfl) (by kernel_rfl) (by kernel_rfl) (by kernel_rfl) (fun _ _ _ h => h) hS (fun _ => trivial) rfl (fun w' hq => ?h0c) ?_
        case h0c => obtain ⟨hq0, hq1, hq2, hq3, hq4, hq5, hq6, -⟩ := hq; change _ = some _ at hq0; change _ = some _ at hq1; change _ = some _ at hq2; change _ = some _ at hq3; change _ = some _ at hq4; change _ = some _ at hq5; change _ = some _ at hq6; go_simp; all_goals (try with_reducible rfl)
        try simp only [Act.put, List.setIfInBounds_toArray, List.set_cons_zero, List.set_cons_succ, List.getElem_toArray, List.getElem_cons_succ, List.getElem_cons_zero]
        refine take_S (v := .bool true) 1 rfl (by kernel_rfl) (by kernel_rfl) (by kernel_rfl) (by kernel_rfl) (fun _ _ _ h => h) hS (fun _ => trivial) rfl (fun w' hq => ?h1c) ?_
        case h1c => obtain ⟨hq0, hq1, hq2, hq3, hq4, hq5, hq6, -⟩ := hq; change _ = some _ at hq0; change _ = some _ at hq1; change _ = some _ at hq2; change _ = some _ at hq3; change _ = some _ at hq4; change _ = some _ at hq5; change _ = some _ at hq6; go_simp; all_goals (omega)
        try simp only [Act.put, List.setIfInBounds_toArray, List.set_cons_zero, List.set_cons_succ, List.getElem_toArray, List.getElem_cons_succ, List.getElem_cons_zero]
        refine take_S (v := ?v2c) 2 rfl (by kernel_rfl) (by kernel_rfl) (by kernel_rfl) (by kernel_rfl) (fun _ _ _ h => h) hS (fun _ => trivial) rfl (fun w' hq => ?h2c) ?_
        case h2c => obtain ⟨hq0, hq1, hq2, hq3, hq4, hq5, hq6, -⟩ := hq; change _ = some _ at hq0; change _ = some _ at hq1; change _ = some _ at hq2; change _ = some _ at hq3; change _ = some _ at hq4; change _ = some _ at hq5; change _ = some _ at hq6; go_simp; all_goals (try with_reducible rfl)
        try simp only [Act.put, List.setIfInBounds_toArray, List.set_cons_zero, List.set_cons_succ, List.getElem_toArray, List.getElem_cons_succ, List.getElem_cons_zero]
        refine take_S (v := ?v3c) 3 rfl (by kernel_rfl) (by kernel_rfl) (by kernel_rfl) (by kernel_rfl) (fun _ _ _ h => h) hS (fun _ => trivial) rfl (fun w' hq => ?h3c) ?_
        case h3c => obtain ⟨hq0, hq1, hq2, hq3, hq4, hq5, hq6, -⟩ := hq; change _ = some _ at hq0; change _ = some _ at hq1; change _ = some _ at hq2; change _ = some _ at hq3; change _ = some _ at hq4; change _ = some _ at hq5; change _ = some _ at hq6; go_simp; all_goals (try with_reducible rfl)
        try simp only [Act.put, List.setIfInBounds_toArray, List.set_cons_zero, List.set_cons_succ, List.getElem_toArray, List.getElem_cons_succ, List.getElem_cons_zero]
        refine take_S (v := ?v4c) 4 rfl (by kernel_rfl) (by kernel_rfl) (by kernel_rfl) (by kernel_rfl) (fun _ _ _ h => h) hS (fun _ => trivial) rfl (fun w' hq => ?h4c) ?_
        case h4c => obtain ⟨hq0, hq1, hq2, hq3, hq4, hq5, hq6, -⟩ := hq; change _ = some _ at hq0; change _ = some _ at hq1; change _ = some _ at hq2; change _ = some _ at hq3; change _ = some _ at hq4; change _ = some _ at hq5; change _ = some _ at hq6; go_simp; all_goals (try with_reducible rfl)
        try simp only [Act.put, List.setIfInBounds_toArray, List.set_cons_zero, List.set_cons_succ, List.getElem_toArray, List.getElem_cons_succ, List.getElem_cons_zero]
        refine take_S (v := .int .i64 (k : Int)) 5 rfl (by kernel_rfl) (by kernel_rfl) (by kernel_rfl) (by kernel_rfl) (fun _ _ _ h => h) hS (fun _ => trivial) rfl (fun w' hq => ?h5c) ?_
        case h5c => obtain ⟨hq0, hq1, hq2, hq3, hq4, hq5, hq6, -⟩ := hq; change _ = some _ at hq0; change _ = some _ at hq1; change _ = some _ at hq2; change _ = some _ at hq3; change _ = some _ at hq4; change _ = some _ at hq5; change _ = some _ at hq6; go_simp; all_goals (first | rw [hw] | skip)
        try simp only [Act.put, List.setIfInBounds_toArray, List.set_cons_zero, List.set_cons_succ, List.getElem_toArray, List.getElem_cons_succ, List.getElem_cons_zero]
        refine take_S (v := ?v6c) 6 rfl (by kernel_rfl) (by kernel_rfl) (by kernel_rfl) (by kernel_rfl) (fun _ _ _ h => h) hS (fun _ => trivial) rfl (fun w' hq => ?h6c) ?_
        case h6c => obtain ⟨hq0, hq1, hq2, hq3, hq4, hq5, hq6, -⟩ := hq; change _ = some _ at hq0; change _ = some _ at hq1; change _ = some _ at hq2; change _ = some _ at hq3; change _ = some _ at hq4; change _ = some _ at hq5; change _ = some _ at hq6; go_simp; all_goals (try with_reducible rfl)
        try simp only [Act.put, List.setIfInBounds_toArray, List.set_cons_zero, List.set_cons_succ, List.getElem_toArray, List.getElem_cons_succ, List.getElem_cons_zero]
        refine take_S (v := ?v7c) 7 rfl (by kernel_rfl) (by kernel_rfl) (by kernel_rfl) (by kernel_rfl) (fun _ _ _ h => h) hS (fun _ => trivial) rfl (fun w' hq => ?h7c) ?_
        case h7c => obtain ⟨hq0, hq1, hq2, hq3, hq4, hq5, hq6, -⟩ := hq; change _ = some _ at hq0; change _ = some _ at hq1; change _ = some _ at hq2; change _ = some _ at hq3; change _ = some _ at hq4; change _ = some _ at hq5; change _ = some _ at hq6; go_simp; all_goals (try with_reducible rfl)
        try simp only [Act.put, List.setIfInBounds_toArray, List.set_cons_zero, List.set_cons_succ, List.getElem_toArray, List.getElem_cons_succ, List.getElem_cons_zero]
        refine take_S (v := ?v8c) 8 rfl (by kernel_rfl) (by kernel_rfl) (by kernel_rfl) (by kernel_rfl) (fun _ _ _ h => h) hS (fun _ => trivial) rfl (fun w' hq => ?h8c) ?_
        case h8c => obtain ⟨hq0, hq1, hq2, hq3, hq4, hq5, hq6, -⟩ := hq; change _ = some _ at hq0; change _ = some _ at hq1; change _ = some _ at hq2; change _ = some _ at hq3; change _ = some _ at hq4; change _ = some _ at hq5; change _ = some _ at hq6; go_simp; all_goals (try with_reducible rfl)
        try simp only [Act.put, List.setIfInBounds_toArray, List.set_cons_zero, List.set_cons_succ, List.getElem_toArray, List.getElem_cons_succ, List.getElem_cons_zero]
        refine take_S (v := ?v9c) 9 rfl (by kernel_rfl) (by kernel_rfl) (by kernel_rfl) (by kernel_rfl) (fun _ _ _ h => h) hS (fun _ => trivial) rfl (fun w' hq => ?h9c) ?_
        case h9c => obtain ⟨hq0, hq1, hq2, hq3, hq4, hq5, hq6, -⟩ := hq; change _ = some _ at hq0; change _ = some _ at hq1; change _ = some _ at hq2; change _ = some _ at hq3; change _ = some _ at hq4; change _ = some _ at hq5; change _ = some _ at hq6; go_simp; all_goals (try with_reducible rfl)
        try simp only [Act.put, List.setIfInBounds_toArray, List.set_cons_zero, List.set_cons_succ, List.getElem_toArray, List.getElem_cons_succ, List.getElem_cons_zero]
        refine take_S (v := ?v10c) 10 rfl (by kernel_rfl) (by kernel_rfl) (by kernel_rfl) (by kernel_rfl) (fun _ _ _ h => h) hS (fun _ => trivial) rfl (fun w' hq => ?h10c) ?_
        case h10c => obtain ⟨hq0, hq1, hq2, hq3, hq4, hq5, hq6, -⟩ := hq; change _ = some _ at hq0; change _ = some _ at hq1; change _ = some _ at hq2; change _ = some _ at hq3; change _ = some _ at hq4; change _ = some _ at hq5; change _ = some _ at hq6; go_simp; all_goals (try with_reducible rfl)
        try simp only [Act.put, List.setIfInBounds_toArray, List.set_cons_zero, List.set_cons_succ, List.getElem_toArray, List.getElem_cons_succ, List.getElem_cons_zero]
        refine take_S (v := .bool true) 11 rfl (by kernel_rfl) (by kernel_rfl) (by kernel_rfl) (by kernel_rfl) (fun _ _ _ h => h) hS (fun _ => trivial) rfl (fun w' hq => ?h11c) ?_
        case h11c => obtain ⟨hq0, hq1, hq2, hq3, hq4, hq5, hq6, -⟩ := hq; change _ = some _ at hq0; change _ = some _ at hq1; change _ = some _ at hq2; change _ = some _ at hq3; change _ = some _ at hq4; change _ = some _ at hq5; change _ = some _ at hq6; go_simp; all_goals (first | rfl | (simp; done) | (simp [hse]))
        try simp only [Act.put, List.setIfInBounds_toArray, List.set_cons_zero, List.set_cons_succ, List.getElem_toArray, List.getElem_cons_succ, List.getElem_cons_zero]
        refine take_S (v := ?v12c) 12 rfl (by kernel_rfl) (by kernel_rfl) (by kernel_rfl) (by kernel_rfl) (fun _ _ _ h => h) hS (fun _ => trivial) rfl (fun w' hq => ?h12c) ?_
        case h12c => obtain ⟨hq0, hq1, hq2, hq3, hq4, hq5, hq6, -⟩ := hq; change _ = some _ at hq0; change _ = some _ at hq1; change _ = some _ at hq2; change _ = some _ at hq3; change _ = some _ at hq4; change _ = some _ at hq5; change _ = some _ at hq6; go_simp; all_goals (try with_reducible rfl)
        try simp only [Act.put, List.setIfInBounds_toArray, List.set_cons_zero, List.set_cons_succ, List.getElem_toArray, List.getElem_cons_succ, List.getElem_cons_zero]
        refine take_S (v := ?v13c) 13 rfl (by kernel_rfl) (by kernel_rfl) (by kernel_rfl) (by kernel_rfl) (fun _ _ _ h => h) hS (fun _ => trivial) rfl (fun w' hq => ?h13c) ?_
        case h13c => obtain ⟨hq0, hq1, hq2, hq3, hq4, hq5, hq6, -⟩ := hq; change _ = some _ at hq0; change _ = some _ at hq1; change _ = some _ at hq2; change _ = some _ at hq3; change _ = some _ at hq4; change _ = some _ at hq5; change _ = some _ at hq6; go_simp; all_goals (try with_reducible rfl)
        try simp only [Act.put, List.setIfInBounds_toArray, List.set_cons_zero, List.set_cons_succ, List.getElem_toArray, List.getElem_cons_succ, List.getElem_cons_zero]
        refine take_S (v := ?v14c) 14 rfl (by kernel_rfl) (by kernel_rfl) (by kernel_rfl) (by kernel_rfl) (fun _ _ _ h => h) hS (fun _ => trivial) rfl (fun w' hq => ?h14c) ?_
        case h14c => obtain ⟨hq0, hq1, hq2, hq3, hq4, hq5, hq6, -⟩ := hq; change _ = some _ at hq0; change _ = some _ at hq1; change _ = some _ at hq2; change _ = some _ at hq3; change _ = some _ at hq4; change _ = some _ at hq5; change _ = some _ at hq6; go_simp; all_goals (try with_reducible rfl)
        try simp only [Act.put, List.setIfInBounds_toArray, List.set_cons_zero, List.set_cons_succ, List.getElem_toArray, List.getElem_cons_succ, List.getElem_cons_zero]
        refine take_S (v := ?v15c) 15 rfl (by kernel_rfl) (by kernel_rfl) (by kernel_rfl) (by kernel_rfl) (fun _ _ _ h => h) hS (fun _ => trivial) rfl (fun w' hq => ?h15c) ?_
        case h15c => obtain ⟨hq0, hq1, hq2, hq3, hq4, hq5, hq6, -⟩ := hq; change _ = some _ at hq0; change _ = some _ at hq1; change _ = some _ at hq2; change _ = some _ at hq3; change _ = some _ at hq4; change _ = some _ at hq5; change _ = some _ at hq6; go_simp; all_goals (try with_reducible rfl)
        try simp only [Act.put, List.setIfInBounds_toArray, List.set_cons_zero, List.set_cons_succ, List.getElem_toArray, List.getElem_cons_succ, List.getElem_cons_zero]
        refine take_S (v := .int .i64 (k : Int)) 16 rfl (by kernel_rfl) (by kernel_rfl) (by kernel_rfl) (by kernel_rfl) (fun _ _ _ h => h) hS (fun _ => trivial) rfl (fun w' hq => ?h16c) ?_
        case h16c => obtain ⟨hq0, hq1, hq2, hq3, hq4, hq5, hq6, -⟩ := hq; change _ = some _ at hq0; change _ = some _ at hq1; change _ = some _ at hq2; change _ = some _ at hq3; change _ = some _ at hq4; change _ = some _ at hq5; change _ = some _ at hq6; go_simp; all_goals (first | rw [hw] | skip)
        try simp only [Act.put, List.setIfInBounds_toArray, List.set_cons_zero, List.set_cons_succ, List.getElem_toArray, List.getElem_cons_succ, List.getElem_cons_zero]
        refine take_S (v := ?v17c) 17 rfl (by kernel_rfl) (by kernel_rfl) (by kernel_rfl) (by kernel_rfl) (fun _ _ _ h => h) hS (fun _ => trivial) rfl (fun w' hq => ?h17c) ?_
        case h17c => obtain ⟨hq0, hq1, hq2, hq3, hq4, hq5, hq6, -⟩ := hq; change _ = some _ at hq0; change _ = some _ at hq1; change _ = some _ at hq2; change _ = some _ at hq3; change _ = some _ at hq4; change _ = some _ at hq5; change _ = some _ at hq6; go_simp; all_goals (try with_reducible rfl)
        try simp only [Act.put, List.setIfInBounds_toArray, List.set_cons_zero, List.set_cons_succ, List.getElem_toArray, List.getElem_cons_succ, List.getElem_cons_zero]
        refine take_S (v := ?v18c) 18 rfl (by kernel_rfl) (by kernel_rfl) (by kernel_rfl) (by kernel_rfl) (fun _ _ _ h => h) hS (fun _ => trivial) rfl (fun w' hq => ?h18c) ?_
        case h18c => obtain ⟨hq0, hq1, hq2, hq3, hq4, hq5, hq6, -⟩ := hq; change _ = some _ at hq0; change _ = some _ at hq1; change _ = some _ at hq2; change _ = some _ at hq3; change _ = some _ at hq4; change _ = some _ at hq5; change _ = some _ at hq6; go_simp; all_goals (try with_reducible rfl)
        try simp only [Act.put, List.setIfInBounds_toArray, List.set_cons_zero, List.set_cons_succ, List.getElem_toArray, List.getElem_cons_succ, List.getElem_cons_zero]
        refine take_S (v := ?v19c) 19 rfl (by kernel_rfl) (by kernel_rfl) (by kernel_rfl) (by kernel_rfl) (fun _ _ _ h => h) hS (fun _ => trivial) rfl (fun w' hq => ?h19c) ?_
        case h19c => obtain ⟨hq0, hq1, hq2, hq3, hq4, hq5, hq6, -⟩ := hq; change _ = some _ at hq0; change _ = some _ at hq1; change _ = some _ at hq2; change _ = some _ at hq3; change _ = some _ at hq4; change _ = some _ at hq5; change _ = some _ at hq6; go_simp; all_goals (try with_reducible rfl)
        try simp only [Act.put, List.setIfInBounds_toArray, List.set_cons_zero, List.set_cons_succ, List.getElem_toArray, List.getElem_cons_succ, List.getElem_cons_zero]
        refine take_S (v := ?v20c) 20 rfl (by kernel_rfl) (by kernel_rfl) (by kernel_rfl) (by kernel_rfl) (fun _ _ _ h => h) hS (fun _ => trivial) rfl (fun w' hq => ?h20c) ?_
        case h20c => obtain ⟨hq0, hq1, hq2, hq3, hq4, hq5, hq6, -⟩ := hq; change _ = some _ at hq0; change _ = some _ at hq1; change _ = some _ at hq2; change _ = some _ at hq3; change _ = some _ at hq4; change _ = some _ at hq5; change _ = some _ at hq6; go_simp; all_goals (try with_reducible rfl)
        try simp only [Act.put, List.setIfInBounds_toArray, List.set_cons_zero, List.set_cons_succ, List.getElem_toArray, List.getElem_cons_succ, List.getElem_cons_zero]
        refine take_S (v := ?v21c) 21 rfl (by kernel_rfl) (by kernel_rfl) (by kernel_rfl) (by kernel_rfl) (fun _ _ _ h => h) hS (fun _ => trivial) rfl (fun w' hq => ?h21c) ?_
        case h21c => obtain ⟨hq0, hq1, hq2, hq3, hq4, hq5, hq6, -⟩ := hq; change _ = some _ at hq0; change _ = some _ at hq1; change _ = some _ at hq2; change _ = some _ at hq3; change _ = some _ at hq4; change _ = some _ at hq5; change _ = some _ at hq6; go_simp; all_goals (try with_reducible rfl)
        try simp only [Act.put, List.setIfInBounds_toArray, List.set_cons_zero, List.set_cons_succ, List.getElem_toArray, List.getElem_cons_succ, List.getElem_cons_zero]
        refine take_S (v := .int .i64 (k : Int)) 22 rfl (by kernel_rfl) (by kernel_rfl) (by kernel_rfl) (by kernel_rfl) (fun _ _ _ h => h) hS (fun _ => trivial) rfl (fun w' hq => ?h22c) ?_
        case h22c => obtain ⟨hq0, hq1, hq2, hq3, hq4, hq5, hq6, -⟩ := hq; change _ = some _ at hq0; change _ = some _ at hq1; change _ = some _ at hq2; change _ = some _ at hq3; change _ = some _ at hq4; change _ = some _ at hq5; change _ = some _ at hq6; go_simp; all_goals (first | rw [hw] | skip)
        try simp only [Act.put, List.setIfInBounds_toArray, List.set_cons_zero, List.set_cons_succ, List.getElem_toArray, List.getElem_cons_succ, List.getElem_cons_zero]
        refine take_S (v := ?v23c) 23 rfl (by kernel_rfl) (by kernel_rfl) (by kernel_rfl) (by kernel_rfl) (fun _ _ _ h => h) hS (fun _ => trivial) rfl (fun w' hq => ?h23c) ?_
        case h23c => obtain ⟨hq0, hq1, hq2, hq3, hq4, hq5, hq6, -⟩ := hq; change _ = some _ at hq0; change _ = some _ at hq1; change _ = some _ at hq2; change _ = some _ at hq3; change _ = some _ at hq4; change _ = some _ at hq5; change _ = some _ at hq6; go_simp; all_goals (try with_reducible rfl)
        try simp only [Act.put, List.setIfInBounds_toArray, List.set_cons_zero, List.set_cons_succ, List.getElem_toArray, List.getElem_cons_succ, List.getElem_cons_zero]
        refine take_S (v := ?v24c) 24 rfl (by kernel_rfl) (by kernel_rfl) (by kernel_rfl) (by kernel_rfl) (fun _ _ _ h => h) hS (fun _ => trivial) rfl (fun w' hq => ?h24c) ?_
        case h24c => obtain ⟨hq0, hq1, hq2, hq3, hq4, hq5, hq6, -⟩ := hq; change _ = some _ at hq0; change _ = some _ at hq1; change _ = some _ at hq2; change _ = some _ at hq3; change _ = some _ at hq4; change _ = some _ at hq5; change _ = some _ at hq6; go_simp; all_goals (try with_reducible rfl)
        try simp only [Act.put, List.setIfInBounds_toArray, List.set_cons_zero, List.set_cons_succ, List.getElem_toArray, List.getElem_cons_succ, List.getElem_cons_zero]
        refine take_S (v := ?v25c) 25 rfl (by kernel_rfl) (by kernel_rfl) (by kernel_rfl) (by kernel_rfl) (fun _ _ _ h => h) hS (fun _ => trivial) rfl (fun w' hq => ?h25c) ?_
        case h25c => obtain ⟨hq0, hq1, hq2, hq3, hq4, hq5, hq6, -⟩ := hq; change _ = some _ at hq0; change _ = some _ at hq1; change _ = some _ at hq2; change _ = some _ at hq3; change _ = some _ at hq4; change _ = some _ at hq5; change _ = some _ at hq6; go_simp; all_goals (try with_reducible rfl)
        try simp only [Act.put, List.setIfInBounds_toArray, List.set_cons_zero, List.set_cons_succ, List.getElem_toArray, List.getElem_cons_succ, List.getElem_cons_zero]
        refine take_S (v := .int .i64 (t1 : Int)) 26 rfl (by kernel_rfl) (by kernel_rfl) (by kernel_rfl) (by kernel_rfl) (fun _ _ _ h => h) hS (fun _ => trivial) rfl (fun w' hq => ?h26c) ?_
        case h26c => obtain ⟨hq0, hq1, hq2, hq3, hq4, hq5, hq6, -⟩ := hq; change _ = some _ at hq0; change _ = some _ at hq1; change _ = some _ at hq2; change _ = some _ at hq3; change _ = some _ at hq4; change _ = some _ at hq5; change _ = some _ at hq6; go_simp; all_goals (first | rw [hwt] | skip)
        try simp only [Act.put, List.setIfInBounds_toArray, List.set_cons_zero, List.set_cons_succ, List.getElem_toArray, List.getElem_cons_succ, List.getElem_cons_zero]
        refine take_S (v := ?v27c) 27 rfl (by kernel_rfl) (by kernel_rfl) (by kernel_rfl) (by kernel_rfl) (fun _ _ _ h => h) hS (fun _ => trivial) rfl (fun w' hq => ?h27c) ?_
        case h27c => obtain ⟨hq0, hq1, hq2, hq3, hq4, hq5, hq6, -⟩ := hq; change _ = some _ at hq0; change _ = some _ at hq1; change _ = some _ at hq2; change _ = some _ at hq3; change _ = some _ at hq4; change _ = some _ at hq5; change _ = some _ at hq6; go_simp; all_goals (try with_reducible rfl)
        try simp only [Act.put, List.setIfInBounds_toArray, List.set_cons_zero, List.set_cons_succ, List.getElem_toArray, List.getElem_cons_succ, List.getElem_cons_zero]
        refine take_S (v := ?v28c) 28 rfl (by kernel_rfl) (by kernel_rfl) (by kernel_rfl) (by kernel_rfl) (fun _ _ _ h => h) hS (fun _ => trivial) rfl (fun w' hq => ?h28c) ?_
        case h28c => obtain ⟨hq0, hq1, hq2, hq3, hq4, hq5, hq6, -⟩ := hq; change _ = some _ at hq0; change _ = some _ at hq1; change _ = some _ at hq2; change _ = some _ at hq3; change _ = some _ at hq4; change _ = some _ at hq5; change _ = some _ at hq6; go_simp; all_goals (try with_reducible rfl)
        try simp only [Act.put, List.setIfInBounds_toArray, List.set_cons_zero, List.set_cons_succ, List.getElem_toArray, List.getElem_cons_succ, List.getElem_cons_zero]
        refine take_S (v := .bool false) 29 rfl (by kernel_rfl) (by kernel_rfl) (by kernel_rfl) (by kernel_rfl) (fun _ _ _ h => h) hS (fun _ => trivial) rfl (fun w' hq => ?h29c) ?_
        case h29c => obtain ⟨hq0, hq1, hq2, hq3, hq4, hq5, hq6, -⟩ := hq; change _ = some _ at hq0; change _ = some _ at hq1; change _ = some _ at hq2; change _ = some _ at hq3; change _ = some _ at hq4; change _ = some _ at hq5; change _ = some _ at hq6; go_simp; all_goals (first | rfl | (simp; done) | (simp [hqe]))
        try simp only [Act.put, List.setIfInBounds_toArray, List.set_cons_zero, List.set_cons_succ, List.getElem_toArray, List.getElem_cons_succ, List.getElem_cons_zero]
        refine take_S (v := ?v30c) 30 rfl (by kernel_rfl) (by kernel_rfl) (by kernel_rfl) (by kernel_rfl) (fun _ _ _ h => h) hS (fun _ => trivial) rfl (fun w' hq => ?h30c) ?_
        case h30c => obtain ⟨hq0, hq1, hq2, hq3, hq4, hq5, hq6, -⟩ := hq; change _ = some _ at hq0; change _ = some _ at hq1; change _ = some _ at hq2; change _ = some _ at hq3; change _ = some _ at hq4; change _ = some _ at hq5; change _ = some _ at hq6; go_simp; all_goals (try with_reducible rfl)
        try simp only [Act.put, List.setIfInBounds_toArray, List.set_cons_zero, List.set_cons_succ, List.getElem_toArray, List.getElem_cons_succ, List.getElem_cons_zero]
        refine done_D (by kernel_rfl) ?_ _
        clear q0 q1 q2 fg
        have HO1 := Lib.hid (show PcsOwn (W.alloc (.cells #[.bool zs, .int .i64 at_, .int .i64 ln] 58)).drew base (.slice (some ⟨g, 0, none⟩) n c) (l ++ [⟨zs, za, zl⟩]) from (by unfold PcsOwn; first | exact own_alloc HO.out (.cells #[.bool zs, .int .i64 at_, .int .i64 ln] 58) | (rw [← Hn'.out]; exact own_alloc HO.out (.cells #[.bool zs, .int .i64 at_, .int .i64 ln] 58))))
        have HB1 := Lib.hid (HBl.out.alloc (.cells #[.bool zs, .int .i64 at_, .int .i64 ln] 58)).drew
        have HN1 := Lib.hid (one_pc (w := W.drew) ⟨zs, at_, ln⟩)
        have HX1 := Lib.hid (HN.out.alloc (by have := Hsz.out; omega) (.cells #[.bool zs, .int .i64 at_, .int .i64 ln] 58)).drew
        go_wp2_with (at_builtin; go_loud (refine wpList_append_P rfl (.tmp 48) (.tmp 50) rfl base (.slice (some ⟨g, 0, none⟩) n c) (l ++ [⟨zs, za, zl⟩]) [⟨zs, at_, ln⟩] (fun _ => True) rfl HO1.out (some ⟨W.heap.size, 0, none⟩) 1 rfl HN1.out NilOk.some (by rw [← Hn'.out]; simp; omega) (by have := Hsz.out; simp; omega) ?_; intro v' w3 ho3 hg3; obtain ⟨n3, p3, c3, rfl⟩ : ∃ n p c, v' = .slice p n c := (by obtain ⟨p, c, h⟩ := own_slice ho3; exact ⟨_, p, c, h⟩); have HO3 := Lib.hid ho3; have hB3 := Blk.grown HB1.out hg3 (fun he => own_ne HO1.out HB1.out (by decide) he.symm); have HB3 := Lib.hid hB3; have HX3 := Lib.hid (HX1.out.grown hg3 (by have := Hsz.out; simp; omega) (fun j hj => Nat.le_trans h1 (HO1.out.lt j hj).1)); obtain ⟨m3, f3, -⟩ := hB3.c1; clear hB3 ho3))
        go_end0
        refine ⟨rfl, _, HB3.out.set_ 0 _, ?_, HX3.out.setCell (by first | exact h0 | (exact .inl h0)) _⟩
        rw [Hput.out]
        exact own_set HO3.out HB3.out (by decide) 0 _
    · have hse : (zs == s) = false := by cases zs <;> cases s <;> simp_all
      have Hput := Lib.hid (show putL (l ++ [⟨zs, za, zl⟩]) ⟨s, at_, ln⟩ = l ++ [⟨zs, za, zl⟩] ++ [⟨s, at_, ln⟩] from by rw [putL_snoc]; exact if_neg (fun h => hs h.1))
      go_enter Try.func44, Try.ntmps44
      go_wp2_with fail
      generalize hWg : w.alloc (.cells #[.bool s, .int .i64 at_, .int .i64 ln] 58) = W at *
      clear hWg
      have hS : Holds [(B, 0, .slice (some ⟨g, 0, none⟩) n c), (w.heap.size, 0, .bool s), (w.heap.size, 1, .int .i64 at_), (w.heap.size, 2, .int .i64 ln), (g, k * 3, .bool zs), (g, k * 3 + 1, .int .i64 za), (g, k * 3 + 2, .int .i64 zl)] W.drew := ⟨m0, g0, g1, g2, q0, q1, q2, trivial⟩
      have hT : Hold0 W.drew := trivial
      refine begin_D [] (by kernel_rfl) hS (fun _ => hT) ?_
      refine take_S (v := ?v0b) 0 rfl (by kernel_rfl) (by kernel_rfl) (by kernel_rfl) (by kernel_rfl) (fun _ _ _ h => h) hS (fun _ => trivial) rfl (fun w' hq => ?h0b) ?_
      case h0b => obtain ⟨hq0, hq1, hq2, hq3, hq4, hq5, hq6, -⟩ := hq; change _ = some _ at hq0; change _ = some _ at hq1; change _ = some _ at hq2; change _ = some _ at hq3; change _ = some _ at hq4; change _ = some _ at hq5; change _ = some _ at hq6; go_simp; all_goals (try with_reducible rfl)
      try simp only [Act.put, List.setIfInBounds_toArray, List.set_cons_zero, List.set_cons_succ, List.getElem_toArray, List.getElem_cons_succ, List.getElem_cons_zero]
      refine take_S (v := .bool true) 1 rfl (by kernel_rfl) (by kernel_rfl) (by kernel_rfl) (by kernel_rfl) (fun _ _ _ h => h) hS (fun _ => trivial) rfl (fun w' hq => ?h1b) ?_
      case h1b => obtain ⟨hq0, hq1, hq2, hq3, hq4, hq5, hq6, -⟩ := hq; change _ = some _ at hq0; change _ = some _ at hq1; change _ = some _ at hq2; change _ = some _ at hq3; change _ = some _ at hq4; change _ = some _ at hq5; change _ = some _ at hq6; go_simp; all_goals (omega)
      try simp only [Act.put, List.setIfInBounds_toArray, List.set_cons_zero, List.set_cons_succ, List.getElem_toArray, List.getElem_cons_succ, List.getElem_cons_zero]
      refine take_S (v := ?v2b) 2 rfl (by kernel_rfl) (by kernel_rfl) (by kernel_rfl) (by kernel_rfl) (fun _ _ _ h => h) hS (fun _ => trivial) rfl (fun w' hq => ?h2b) ?_
      case h2b => obtain ⟨hq0, hq1, hq2, hq3, hq4, hq5, hq6, -⟩ := hq; change _ = some _ at hq0; change _ = some _ at hq1; change _ = some _ at hq2; change _ = some _ at hq3; change _ = some _ at hq4; change _ = some _ at hq5; change _ = some _ at hq6; go_simp; all_goals (try with_reducible rfl)
      try simp only [Act.put, List.setIfInBounds_toArray, List.set_cons_zero, List.set_cons_succ, List.getElem_toArray, List.getElem_cons_succ, List.getElem_cons_zero]
      refine take_S (v := ?v3b) 3 rfl (by kernel_rfl) (by kernel_rfl) (by kernel_rfl) (by kernel_rfl) (fun _ _ _ h => h) hS (fun _ => trivial) rfl (fun w' hq => ?h3b) ?_
      case h3b => obtain ⟨hq0, hq1, hq2, hq3, hq4, hq5, hq6, -⟩ := hq; change _ = some _ at hq0; change _ = some _ at hq1; change _ = some _ at hq2; change _ = some _ at hq3; change _ = some _ at hq4; change _ = some _ at hq5; change _ = some _ at hq6; go_simp; all_goals (try with_reducible rfl)
      try simp only [Act.put, List.setIfInBounds_toArray, List.set_cons_zero, List.set_cons_succ, List.getElem_toArray, List.getElem_cons_succ, List.getElem_cons_zero]
      refine take_S (v := ?v4b) 4 rfl (by kernel_rfl) (by kernel_rfl) (by kernel_rfl) (by kernel_rfl) (fun _ _ _ h => h) hS (fun _ => trivial) rfl (fun w' hq => ?h4b) ?_
      case h4b => obtain ⟨hq0, hq1, hq2, hq3, hq4, hq5, hq6, -⟩ := hq; change _ = some _ at hq0; change _ = some _ at hq1; change _ = some _ at hq2; change _ = some _ at hq3; change _ = some _ at hq4; change _ = some _ at hq5; change _ = some _ at hq6; go_simp; all_goals (try with_reducible rfl)
      try simp only [Act.put, List.setIfInBounds_toArray, List.set_cons_zero, List.set_cons_succ, List.getElem_toArray, List.getElem_cons_succ, List.getElem_cons_zero]
      refine take_S (v := .int .i64 (k : Int)) 5 rfl (by kernel_rfl) (by kernel_rfl) (by kernel_rfl) (by kernel_rfl) (fun _ _ _ h => h) hS (fun _ => trivial) rfl (fun w' hq => ?h5b) ?_
      case h5b => obtain ⟨hq0, hq1, hq2, hq3, hq4, hq5, hq6, -⟩ := hq; change _ = some _ at hq0; change _ = some _ at hq1; change _ = some _ at hq2; change _ = some _ at hq3; change _ = some _ at hq4; change _ = some _ at hq5; change _ = some _ at hq6; go_simp; all_goals (first | rw [hw] | skip)
      try simp only [Act.put, List.setIfInBounds_toArray, List.set_cons_zero, List.set_cons_succ, List.getElem_toArray, List.getElem_cons_succ, List.getElem_cons_zero]
      refine take_S (v := ?v6b) 6 rfl (by kernel_rfl) (by kernel_rfl) (by kernel_rfl) (by kernel_rfl) (fun _ _ _ h => h) hS (fun _ => trivial) rfl (fun w' hq => ?h6b) ?_
      case h6b => obtain ⟨hq0, hq1, hq2, hq3, hq4, hq5, hq6, -⟩ := hq; change _ = some _ at hq0; change _ = some _ at hq1; change _ = some _ at hq2; change _ = some _ at hq3; change _ = some _ at hq4; change _ = some _ at hq5; change _ = some _ at hq6; go_simp; all_goals (try with_reducible rfl)
      try simp only [Act.put, List.setIfInBounds_toArray, List.set_cons_zero, List.set_cons_succ, List.getElem_toArray, List.getElem_cons_succ, List.getElem_cons_zero]
      refine take_S (v := ?v7b) 7 rfl (by kernel_rfl) (by kernel_rfl) (by kernel_rfl) (by kernel_rfl) (fun _ _ _ h => h) hS (fun _ => trivial) rfl (fun w' hq => ?h7b) ?_
      case h7b => obtain ⟨hq0, hq1, hq2, hq3, hq4, hq5, hq6, -⟩ := hq; change _ = some _ at hq0; change _ = some _ at hq1; change _ = some _ at hq2; change _ = some _ at hq3; change _ = some _ at hq4; change _ = some _ at hq5; change _ = some _ at hq6; go_simp; all_goals (try with_reducible rfl)
      try simp only [Act.put, List.setIfInBounds_toArray, List.set_cons_zero, List.set_cons_succ, List.getElem_toArray, List.getElem_cons_succ, List.getElem_cons_zero]
      refine take_S (v := ?v8b) 8 rfl (by kernel_rfl) (by kernel_rfl) (by kernel_rfl) (by kernel_rfl) (fun _ _ _ h => h) hS (fun _ => trivial) rfl (fun w' hq => ?h8b) ?_
      case h8b => obtain ⟨hq0, hq1, hq2, hq3, hq4, hq5, hq6, -⟩ := hq; change _ = some _ at hq0; change _ = some _ at hq1; change _ = some _ at hq2; change _ = some _ at hq3; change _ = some _ at hq4; change _ = some _ at hq5; change _ = some _ at hq6; go_simp; all_goals (try with_reducible rfl)
      try simp only [Act.put, List.setIfInBounds_toArray, List.set_cons_zero, List.set_cons_succ, List.getElem_toArray, List.getElem_cons_succ, List.getElem_cons_zero]
      refine take_S (v := ?v9b) 9 rfl (by kernel_rfl) (by kernel_rfl) (by kernel_rfl) (by kernel_rfl) (fun _ _ _ h => h) hS (fun _ => trivial) rfl (fun w' hq => ?h9b) ?_
      case h9b => obtain ⟨hq0, hq1, hq2, hq3, hq4, hq5, hq6, -⟩ := hq; change _ = some _ at hq0; change _ = some _ at hq1; change _ = some _ at hq2; change _ = some _ at hq3; change _ = some _ at hq4; change _ = some _ at hq5; change _ = some _ at hq6; go_simp; all_goals (try with_reducible rfl)
      try simp only [Act.put, List.setIfInBounds_toArray, List.set_cons_zero, List.set_cons_succ, List.getElem_toArray, List.getElem_cons_succ, List.getElem_cons_zero]
      refine take_S (v := ?v10b) 10 rfl (by kernel_rfl) (by kernel_rfl) (by kernel_rfl) (by kernel_rfl) (fun _ _ _ h => h) hS (fun _ => trivial) rfl (fun w' hq => ?h10b) ?_
      case h10b => obtain ⟨hq0, hq1, hq2, hq3, hq4, hq5, hq6, -⟩ := hq; change _ = some _ at hq0; change _ = some _ at hq1; change _ = some _ at hq2; change _ = some _ at hq3; change _ = some _ at hq4; change _ = some _ at hq5; change _ = some _ at hq6; go_simp; all_goals (try with_reducible rfl)
      try simp only [Act.put, List.setIfInBounds_toArray, List.set_cons_zero, List.set_cons_succ, List.getElem_toArray, List.getElem_cons_succ, List.getElem_cons_zero]
      refine take_S (v := .bool false) 11 rfl (by kernel_rfl) (by kernel_rfl) (by kernel_rfl) (by kernel_rfl) (fun _ _ _ h => h) hS (fun _ => trivial) rfl (fun w' hq => ?h11b) ?_
      case h11b => obtain ⟨hq0, hq1, hq2, hq3, hq4, hq5, hq6, -⟩ := hq; change _ = some _ at hq0; change _ = some _ at hq1; change _ = some _ at hq2; change _ = some _ at hq3; change _ = some _ at hq4; change _ = some _ at hq5; change _ = some _ at hq6; go_simp; all_goals (first | rfl | (simp; done) | (simp [hse]))
      try simp only [Act.put, List.setIfInBounds_toArray, List.set_cons_zero, List.set_cons_succ, List.getElem_toArray, List.getElem_cons_succ, List.getElem_cons_zero]
      refine take_S (v := ?v12b) 12 rfl (by kernel_rfl) (by kernel_rfl) (by kernel_rfl) (by kernel_rfl) (fun _ _ _ h => h) hS (fun _ => trivial) rfl (fun w' hq => ?h12b) ?_
      case h12b => obtain ⟨hq0, hq1, hq2, hq3, hq4, hq5, hq6, -⟩ := hq; change _ = some _ at hq0; change _ = some _ at hq1; change _ = some _ at hq2; change _ = some _ at hq3; change _ = some _ at hq4; change _ = some _ at hq5; change _ = some _ at hq6; go_simp; all_goals (try with_reducible rfl)
      try simp only [Act.put, List.setIfInBounds_toArray, List.set_cons_zero, List.set_cons_succ, List.getElem_toArray, List.getElem_cons_succ, List.getElem_cons_zero]
      refine take_S (v := ?v13b) 13 rfl (by kernel_rfl) (by kernel_rfl) (by kernel_rfl) (by kernel_rfl) (fun _ _ _ h => h) hS (fun _ => trivial) rfl (fun w' hq => ?h13b) ?_
      case h13b => obtain ⟨hq0, hq1, hq2, hq3, hq4, hq5, hq6, -⟩ := hq; change _ = some _ at hq0; change _ = some _ at hq1; change _ = some _ at hq2; change _ = some _ at hq3; change _ = some _ at hq4; change _ = some _ at hq5; change _ = some _ at hq6; go_simp; all_goals (try with_reducible rfl)
      try simp only [Act.put, List.setIfInBounds_toArray, List.set_cons_zero, List.set_cons_succ, List.getElem_toArray, List.getElem_cons_succ, List.getElem_cons_zero]
      refine take_no 14 rfl (by kernel_rfl) (by kernel_rfl) (by kernel_rfl) (by kernel_rfl) (fun _ _ _ h => h) hS (fun _ => trivial) rfl ?_
      try simp only [Act.put, List.setIfInBounds_toArray, List.set_cons_zero, List.set_cons_succ, List.getElem_toArray, List.getElem_cons_succ, List.getElem_cons_zero]
      refine take_no 15 rfl (by kernel_rfl) (by kernel_rfl) (by kernel_rfl) (by kernel_rfl) (fun _ _ _ h => h) hS (fun _ => trivial) rfl ?_
      try simp only [Act.put, List.setIfInBounds_toArray, List.set_cons_zero, List.set_cons_succ, List.getElem_toArray, List.getElem_cons_succ, List.getElem_cons_zero]
      refine take_no 16 rfl (by kernel_rfl) (by kernel_rfl) (by kernel_rfl) (by kernel_rfl) (fun _ _ _ h => h) hS (fun _ => trivial) rfl ?_
      try simp only [Act.put, List.setIfInBounds_toArray, List.set_cons_zero, List.set_cons_succ, List.getElem_toArray, List.getElem_cons_succ, List.getElem_cons_zero]
      refine take_no 17 rfl (by kernel_rfl) (by kernel_rfl) (by kernel_rfl) (by kernel_rfl) (fun _ _ _ h => h) hS (fun _ => trivial) rfl ?_
      try simp only [Act.put, List.setIfInBounds_toArray, List.set_cons_zero, List.set_cons_succ, List.getElem_toArray, List.getElem_cons_succ, List.getElem_cons_zero]
      refine take_no 18 rfl (by kernel_rfl) (by kernel_rfl) (by kernel_rfl) (by kernel_rfl) (fun _ _ _ h => h) hS (fun _ => trivial) rfl ?_
      try simp only [Act.put, List.setIfInBounds_toArray, List.set_cons_zero, List.set_cons_succ, List.getElem_toArray, List.getElem_cons_succ, List.getElem_cons_zero]
      refine take_no 19 rfl (by kernel_rfl) (by kernel_rfl) (by kernel_rfl) (by kernel_rfl) (fun _ _ _ h => h) hS (fun _ => trivial) rfl ?_
      try simp only [Act.put, List.setIfInBounds_toArray, List.set_cons_zero, List.set_cons_succ, List.getElem_toArray, List.getElem_cons_succ, List.getElem_cons_zero]
      refine take_no 20 rfl (by kernel_rfl) (by kernel_rfl) (by kernel_rfl) (by kernel_rfl) (fun _ _ _ h => h) hS (fun _ => trivial) rfl ?_
      try simp only [Act.put, List.setIfInBounds_toArray, List.set_cons_zero, List.set_cons_succ, List.getElem_toArray, List.getElem_cons_succ, List.getElem_cons_zero]
      refine take_no 21 rfl (by kernel_rfl) (by kernel_rfl) (by kernel_rfl) (by kernel_rfl) (fun _ _ _ h => h) hS (fun _ => trivial) rfl ?_
      try simp only [Act.put, List.setIfInBounds_toArray, List.set_cons_zero, List.set_cons_succ, List.getElem_toArray, List.getElem_cons_succ, List.getElem_cons_zero]
      refine take_no 22 rfl (by kernel_rfl) (by kernel_rfl) (by kernel_rfl) (by kernel_rfl) (fun _ _ _ h => h) hS (fun _ => trivial) rfl ?_
      try simp only [Act.put, List.setIfInBounds_toArray, List.set_cons_zero, List.set_cons_succ, List.getElem_toArray, List.getElem_cons_succ, List.getElem_cons_zero]
      refine take_no 23 rfl (by kernel_rfl) (by kernel_rfl) (by kernel_rfl) (by kernel_rfl) (fun _ _ _ h => h) hS (fun _ => trivial) rfl ?_
      try simp only [Act.put, List.setIfInBounds_toArray, List.set_cons_zero, List.set_cons_succ, List.getElem_toArray, List.getElem_cons_succ, List.getElem_cons_zero]
      refine take_no 24 rfl (by kernel_rfl) (by kernel_rfl) (by kernel_rfl) (by kernel_rfl) (fun _ _ _ h => h) hS (fun _ => trivial) rfl ?_
      try simp only [Act.put, List.setIfInBounds_toArray, List.set_cons_zero, List.set_cons_succ, List.getElem_toArray, List.getElem_cons_succ, List.getElem_cons_zero]
      refine take_no 25 rfl (by kernel_rfl) (by kernel_rfl) (by kernel_rfl) (by kernel_rfl) (fun _ _ _ h => h) hS (fun _ => trivial) rfl ?_
      try simp only [Act.put, List.setIfInBounds_toArray, List.set_cons_zero, List.set_cons_succ, List.getElem_toArray, List.getElem_cons_succ, List.getElem_cons_zero]
      refine take_no 26 rfl (by kernel_rfl) (by kernel_rfl) (by kernel_rfl) (by kernel_rfl) (fun _ _ _ h => h) hS (fun _ => trivial) rfl ?_
      try simp only [Act.put, List.setIfInBounds_toArray, List.set_cons_zero, List.set_cons_succ, List.getElem_toArray, List.getElem_cons_succ, List.getElem_cons_zero]
      refine take_no 27 rfl (by kernel_rfl) (by kernel_rfl) (by kernel_rfl) (by kernel_rfl) (fun _ _ _ h => h) hS (fun _ => trivial) rfl ?_
      try simp only [Act.put, List.setIfInBounds_toArray, List.set_cons_zero, List.set_cons_succ, List.getElem_toArray, List.getElem_cons_succ, List.getElem_cons_zero]
      refine take_no 28 rfl (by kernel_rfl) (by kernel_rfl) (by kernel_rfl) (by kernel_rfl) (fun _ _ _ h => h) hS (fun _ => trivial) rfl ?_
      try simp only [Act.put, List.setIfInBounds_toArray, List.set_cons_zero, List.set_cons_succ, List.getElem_toArray, List.getElem_cons_succ, List.getElem_cons_zero]
      refine take_no 29 rfl (by kernel_rfl) (by kernel_rfl) (by kernel_rfl) (by kernel_rfl) (fun _ _ _ h => h) hS (fun _ => trivial) rfl ?_
      try simp only [Act.put, List.setIfInBounds_toArray, List.set_cons_zero, List.set_cons_succ, List.getElem_toArray, List.getElem_cons_succ, List.getElem_cons_zero]
      refine take_S (v := ?v30b) 30 rfl (by kernel_rfl) (by kernel_rfl) (by kernel_rfl) (by kernel_rfl) (fun _ _ _ h => h) hS (fun _ => trivial) rfl (fun w' hq => ?h30b) ?_
      case h30b => obtain ⟨hq0, hq1, hq2, hq3, hq4, hq5, hq6, -⟩ := hq; change _ = some _ at hq0; change _ = some _ at hq1; change _ = some _ at hq2; change _ = some _ at hq3; change _ = some _ at hq4; change _ = some _ at hq5; change _ = some _ at hq6; go_simp; all_goals (try with_reducible rfl)
      try simp only [Act.put, List.setIfInBounds_toArray, List.set_cons_zero, List.set_cons_succ, List.getElem_toArray, List.getElem_cons_succ, List.getElem_cons_zero]
      refine done_D (by kernel_rfl) ?_ _
      clear q0 q1 q2 fg
      have HO1 := Lib.hid (show PcsOwn (W.alloc (.cells #[.bool s, .int .i64 at_, .int .i64 ln] 58)).drew base (.slice (some ⟨g, 0, none⟩) n c) (l ++ [⟨zs, za, zl⟩]) from (by unfold PcsOwn; first | exact own_alloc HO.out (.cells #[.bool s, .int .i64 at_, .int .i64 ln] 58) | (rw [← Hn'.out]; exact own_alloc HO.out (.cells #[.bool s, .int .i64 at_, .int .i64 ln] 58))))
      have HB1 := Lib.hid (HBl.out.alloc (.cells #[.bool s, .int .i64 at_, .int .i64 ln] 58)).drew
      have HN1 := Lib.hid (one_pc (w := W.drew) ⟨s, at_, ln⟩)
      have HX1 := Lib.hid (HN.out.alloc (by have := Hsz.out; omega) (.cells #[.bool s, .int .i64 at_, .int .i64 ln] 58)).drew
      go_wp2_with (at_builtin; go_loud (refine wpList_append_P rfl (.tmp 48) (.tmp 50) rfl base (.slice (some ⟨g, 0, none⟩) n c) (l ++ [⟨zs, za, zl⟩]) [⟨s, at_, ln⟩] (fun _ => True) rfl HO1.out (some ⟨W.heap.size, 0, none⟩) 1 rfl HN1.out NilOk.some (by rw [← Hn'.out]; simp; omega) (by have := Hsz.out; simp; omega) ?_; intro v' w3 ho3 hg3; obtain ⟨n3, p3, c3, rfl⟩ : ∃ n p c, v' = .slice p n c := (by obtain ⟨p, c, h⟩ := own_slice ho3; exact ⟨_, p, c, h⟩); have HO3 := Lib.hid ho3; have hB3 := Blk.grown HB1.out hg3 (fun he => own_ne HO1.out HB1.out (by decide) he.symm); have HB3 := Lib.hid hB3; have HX3 := Lib.hid (HX1.out.grown hg3 (by have := Hsz.out; simp; omega) (fun j hj => Nat.le_trans h1 (HO1.out.lt j hj).1)); obtain ⟨m3, f3, -⟩ := hB3.c1; clear hB3 ho3))
      go_end0
      refine ⟨rfl, _, HB3.out.set_ 0 _, ?_, HX3.out.setCell (by first | exact h0 | (exact .inl h0)) _⟩
      rw [Hput.out]
      exact own_set HO3.out HB3.out (by decide) 0 _
end Go.Proofs.Ytelaiafpfaohfaa
