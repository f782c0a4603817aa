/-
  ChangePlays: its plain law: who told and handed in as rows of bits and as rows of nodes; the best of both is one.
-/
import Derived.Test.YtgmekodfkhihiaaKeepsL22
namespace Go.Proofs.Ytgmekodfkhihiaa
open Go.RowKit Go.Maps
set_option linter.unusedSimpArgs false
set_option linter.unusedVariables false

def bitsOf (l : List Nat) : List Bool := (List.range 7).map fun j => l.contains j
theorem bitsOf_len (l : List Nat) : (bitsOf l).length = 7 := by simp [bitsOf]
theorem bitsOf_nil : bitsOf [] = no7 := by decide
theorem bitsOf_add {l : List Nat} {k : Nat} : (bitsOf l).set k true = bitsOf (l ++ [k]) := by
  have := set_map (fun j => l.contains j) (fun j => (l ++ [k]).contains j) k (fun j hj => by simp [hj])
  simp only [show (l ++ [k]).contains k = true from by simp] at this
  exact this
theorem bitsOf_same {l : List Nat} {k : Nat} (h : k ∈ l) : (bitsOf l).set k true = bitsOf l := by
  have := set_map (fun j => l.contains j) (fun j => l.contains j) k (fun j hj => rfl)
  simp only [show l.contains k = true from by simpa using h] at this
  exact this
theorem bitsOf_at {l : List Nat} {k : Nat} (hk : k < 7) : (bitsOf l).getD k false = l.contains k := by
  simp [bitsOf, List.getD, hk]
theorem mem_whoL {l : List Nat} {k : Nat} (hl : ∀ j ∈ l, j < 7) : k ∈ whoL (bitsOf l) ↔ k ∈ l := by
  unfold whoL
  rw [bitsOf_len]
  constructor
  · intro h
    obtain ⟨h1, h2⟩ := List.mem_filter.1 h
    rw [bitsOf_at (List.mem_range.1 h1)] at h2
    simpa using h2
  · intro h
    refine List.mem_filter.2 ⟨List.mem_range.2 (hl k h), ?_⟩
    rw [bitsOf_at (hl k h)]
    simpa using h
theorem whoL_nodup (l : List Bool) : (whoL l).Nodup := (List.filter_sublist).nodup List.nodup_range
theorem whoL_bits {l : List Nat} (hl : ∀ j ∈ l, j < 7) (hn : l.Nodup) : (whoL (bitsOf l)).length = l.length := by
  refine List.Perm.length_eq ?_
  rw [List.perm_ext_iff_of_nodup (whoL_nodup _) hn]
  exact fun k => mem_whoL hl
theorem justB_add {l : List Nat} {k : Nat} {m : Int} (hl : ∀ j ∈ l, j < 7) (hn : l.Nodup) (hk : k < 7) (h : k ∉ l) : justB (bitsOf l) (bitsOf (l ++ [k])) m = decide ((l.length : Int) + 1 = m) := by
  unfold justB
  have h1 : ∀ j ∈ l ++ [k], j < 7 := by
    intro j hj
    rcases List.mem_append.1 hj with hj | hj
    · exact hl j hj
    · simp at hj; omega
  have h2 : (l ++ [k]).Nodup := by
    rw [List.nodup_append]
    refine ⟨hn, by simp, fun a ha b hb => ?_⟩
    simp at hb
    subst hb
    intro e
    exact h (e ▸ ha)
  rw [whoL_bits hl hn, whoL_bits h1 h2, decide_eq_decide]
  simp
  omega

/-- The document's best: which it is, and the greatest commit. -/
def rStep (l : List (Nat × Pk)) (i : Nat) (s : Nat × Int) : Nat × Int :=
  ((if ((l.getD i (0, noPk)).2.better (l.getD s.1 (0, noPk)).2 || (!((l.getD s.1 (0, noPk)).2.better (l.getD i (0, noPk)).2) && decide ((l.getD i (0, noPk)).1 < (l.getD s.1 (0, noPk)).1))) = true then i else s.1),
   (if s.2 < (l.getD i (0, noPk)).2.c then (l.getD i (0, noPk)).2.c else s.2))
def rTo (l : List (Nat × Pk)) : Nat → Nat × Int
  | 0 => (0, 0)
  | i + 1 => rStep l i (rTo l i)
def refBest (l : List (Nat × Pk)) : Pk :=
  let r := rTo l l.length
  let p := (l.getD r.1 (0, noPk)).2
  { p with c := if p.op < r.2 then p.op else r.2 }
/-- p is not behind q. -/
def ahead (p q : Nat × Pk) : Prop := q.2.better p.2 = false ∧ (p.2.better q.2 = false → p.1 ≤ q.1)
theorem rTo_spec (l : List (Nat × Pk)) : ∀ i, i ≤ l.length → 0 < l.length → (rTo l i).1 < l.length ∧ (∀ j, j < i → ahead (l.getD (rTo l i).1 (0, noPk)) (l.getD j (0, noPk))) ∧ 0 ≤ (rTo l i).2 ∧ (∀ j, j < i → (l.getD j (0, noPk)).2.c ≤ (rTo l i).2) ∧ ((rTo l i).2 = 0 ∨ ∃ j, j < i ∧ (rTo l i).2 = (l.getD j (0, noPk)).2.c) ∧ ((rTo l i).1 < i ∨ (rTo l i).1 = 0)
  | 0, _, h0 => ⟨h0, fun j hj => absurd hj (by omega), (by decide : (0 : Int) ≤ 0), fun j hj => absurd hj (by omega), .inl rfl, .inr rfl⟩
  | i + 1, hi, h0 => by
    obtain ⟨h1, h2, h3, h4, h5, h6⟩ := rTo_spec l i (by omega) h0
    rw [show rTo l (i + 1) = rStep l i (rTo l i) from rfl]
    generalize rTo l i = s at *
    obtain ⟨a, cm⟩ := s
    simp only at h1 h2 h3 h4 h5 h6
    unfold rStep
    simp only
    have hlt : ∀ j, j < i + 1 → j < i ∨ j = i := fun j hj => by omega
    refine ⟨?_, ?_, ?_, ?_, ?_, ?_⟩
    · split <;> omega
    · have key : ∀ j, j < i → ahead (l.getD a (0, noPk)) (l.getD j (0, noPk)) := h2
      generalize hx : l.getD i (0, noPk) = x at *
      generalize hy : l.getD a (0, noPk) = y at *
      split
      · rename_i hc
        rw [hx]
        have hxy : x.2.better y.2 = true ∨ (y.2.better x.2 = false ∧ x.1 < y.1) := by simpa using hc
        intro j hj
        rcases hlt j hj with hj | rfl
        · have hk := key j hj
          unfold ahead at hk ⊢
          generalize l.getD j (0, noPk) = z at *
          obtain ⟨k1, k2⟩ := hk
          rw [better_not] at k1 ⊢
          rw [better_iff, better_not] at hxy
          refine ⟨by omega, fun e => ?_⟩
          rw [better_not] at e
          have : y.1 ≤ z.1 := k2 ((better_not _ _).2 (by omega))
          omega
        · rw [hx]
          exact ⟨(better_not _ _).2 (by omega), fun _ => Nat.le_refl _⟩
      · rename_i hc
        rw [hy]
        have hxy : x.2.better y.2 = false ∧ (y.2.better x.2 = false → y.1 ≤ x.1) := by
          cases hb : x.2.better y.2 with
          | true => simp [hb] at hc
          | false =>
            refine ⟨rfl, fun e => ?_⟩
            simp [hb, e] at hc
            omega
        intro j hj
        rcases hlt j hj with hj | rfl
        · exact key j hj
        · rw [hx]; exact hxy
    · split <;> omega
    · intro j hj
      rcases hlt j hj with hj | rfl
      · have := h4 j hj
        split <;> omega
      · split <;> omega
    · split
      · exact .inr ⟨i, by omega, rfl⟩
      · rcases h5 with h5 | ⟨j, hj, h5⟩
        · exact .inl h5
        · exact .inr ⟨j, by omega, h5⟩
    · split
      · exact .inl (by omega)
      · omega
theorem looks_first (ps : List Pk) : ∀ (l : List Nat) (s : Int × Pk), (looks ps l s).2 = s.2 ∨ ∃ l1 i l2, l = l1 ++ i :: l2 ∧ (looks ps l s).2 = ps.getD i noPk ∧ (ps.getD i noPk).better s.2 = true ∧ ∀ j ∈ l1, (ps.getD i noPk).better (ps.getD j noPk) = true
  | [], s => .inl rfl
  | a :: l, s => by
    have hl : (look (ps.getD a noPk) s).2 = if (ps.getD a noPk).better s.2 = true then ps.getD a noPk else s.2 := rfl
    have hm := (looks_max ps [a] s).1
    rcases looks_first ps l (look (ps.getD a noPk) s) with h | ⟨l1, i, l2, rfl, h2, h3, h4⟩
    · cases hb : (ps.getD a noPk).better s.2 with
      | true =>
        rw [hl, if_pos hb] at h
        exact .inr ⟨[], a, l, rfl, h, hb, fun j hj => by cases hj⟩
      | false =>
        rw [hl, if_neg (by rw [hb]; simp)] at h
        exact .inl h
    · refine .inr ⟨a :: l1, i, l2, rfl, h2, ?_, ?_⟩
      · cases hb : (ps.getD a noPk).better s.2 with
        | true =>
          rw [hl, if_pos hb] at h3
          rw [better_iff] at h3 hb ⊢
          omega
        | false =>
          rw [hl, if_neg (by rw [hb]; simp)] at h3
          exact h3
      · intro j hj
        rcases List.mem_cons.1 hj with rfl | hj
        · cases hb : (ps.getD j noPk).better s.2 with
          | true =>
            rw [hl, if_pos hb] at h3
            exact h3
          | false =>
            rw [hl, if_neg (by rw [hb]; simp)] at h3
            rw [better_not] at hb
            rw [better_iff] at h3 ⊢
            omega
        · exact h4 j hj
theorem looks_commit (ps : List Pk) : ∀ (l : List Nat) (s : Int × Pk), s.1 ≤ (looks ps l s).1 ∧ (∀ j ∈ l, (ps.getD j noPk).c ≤ (looks ps l s).1) ∧ ((looks ps l s).1 = s.1 ∨ ∃ j ∈ l, (looks ps l s).1 = (ps.getD j noPk).c)
  | [], s => ⟨Int.le_refl _, (fun j hj => by cases hj), .inl rfl⟩
  | a :: l, s => by
    obtain ⟨h1, h2, h3⟩ := looks_commit ps l (look (ps.getD a noPk) s)
    rw [show looks ps (a :: l) s = looks ps l (look (ps.getD a noPk) s) from rfl]
    have hl : (look (ps.getD a noPk) s).1 = if s.1 < (ps.getD a noPk).c then (ps.getD a noPk).c else s.1 := rfl
    rw [hl] at h1 h3
    refine ⟨by split at h1 <;> omega, fun j hj => ?_, ?_⟩
    · rcases List.mem_cons.1 hj with rfl | hj
      · split at h1 <;> omega
      · exact h2 j hj
    · rcases h3 with h3 | ⟨j, hj, h3⟩
      · split at h3
        · exact .inr ⟨a, List.mem_cons_self, h3⟩
        · exact .inl h3
      · exact .inr ⟨j, List.mem_cons_of_mem _ hj, h3⟩
theorem whoL_sorted (l : List Bool) : (whoL l).Pairwise (· < ·) := List.Pairwise.filter _ List.pairwise_lt_range
/-- What both hold of who handed in what. -/
structure Held (h : List Bool) (ps : List Pk) (l : List (Nat × Pk)) : Prop where
  h : h = bitsOf (l.map (·.1))
  nd : (l.map (·.1)).Nodup
  lt : ∀ x ∈ l, x.1 < 7
  p : ∀ x ∈ l, ps.getD x.1 noPk = x.2
theorem Held.lt7 {h : List Bool} {ps : List Pk} {l : List (Nat × Pk)} (H : Held h ps l) : ∀ j ∈ l.map (·.1), j < 7 := by
  intro j hj
  obtain ⟨x, hx, rfl⟩ := List.mem_map.1 hj
  exact H.lt x hx
theorem Held.len {h : List Bool} {ps : List Pk} {l : List (Nat × Pk)} (H : Held h ps l) : (whoL h).length = l.length := by
  rw [H.h, whoL_bits H.lt7 H.nd, List.length_map]
/-- THE LAW: the best is the document's. -/
theorem best_same {h : List Bool} {ps : List Pk} {l : List (Nat × Pk)} (H : Held h ps l) (h0 : 0 < l.length) : bestOf ps (whoL h) = refBest l := by
  obtain ⟨r1, r2, r3, r4, r5, -⟩ := rTo_spec l l.length (Nat.le_refl _) h0
  have hmem : ∀ k, k ∈ whoL h ↔ k ∈ l.map (·.1) := fun k => by rw [H.h]; exact mem_whoL H.lt7
  have hsort := whoL_sorted h
  have hlen := H.len
  unfold bestOf refBest
  simp only
  generalize rTo l l.length = r at *
  obtain ⟨a, cm⟩ := r
  simp only at r1 r2 r3 r4 r5 ⊢
  have hat : ∀ j (hj : j < l.length), l.getD j (0, noPk) = l[j] := fun j hj => by simp [List.getD, List.getElem?_eq_getElem hj]
  obtain ⟨x, hx⟩ : ∃ x, l.getD a (0, noPk) = x := ⟨_, rfl⟩
  have hxl : x ∈ l := by rw [← hx, hat a r1]; exact List.getElem_mem r1
  rw [hx] at r2 ⊢
  have r2' : ∀ y ∈ l, ahead x y := fun y hy => by
    obtain ⟨j, hj, rfl⟩ := List.getElem_of_mem hy
    rw [← hat j hj]
    exact r2 j hj
  have r4' : ∀ y ∈ l, y.2.c ≤ cm := fun y hy => by
    obtain ⟨j, hj, rfl⟩ := List.getElem_of_mem hy
    rw [← hat j hj]
    exact r4 j hj
  have r5' : cm = 0 ∨ ∃ y ∈ l, cm = y.2.c := by
    rcases r5 with r5 | ⟨j, hj, r5⟩
    · exact .inl r5
    · exact .inr ⟨l[j], List.getElem_mem hj, by rw [r5, hat j hj]⟩
  obtain ⟨w0, wl, hw⟩ := List.exists_cons_of_ne_nil (show whoL h ≠ [] by intro e; rw [e] at hlen; simp at hlen; omega)
  have hof : ∀ k ∈ whoL h, ∃ y ∈ l, y.1 = k ∧ ps.getD k noPk = y.2 := fun k hk => by
    obtain ⟨y, hy, rfl⟩ := List.mem_map.1 ((hmem k).1 hk)
    exact ⟨y, hy, rfl, H.p y hy⟩
  have hto : ∀ y ∈ l, y.1 ∈ whoL h := fun y hy => (hmem _).2 (List.mem_map.2 ⟨y, hy, rfl⟩)
  rw [hw] at hsort hof hto ⊢
  rw [show (w0 :: wl).headD 0 = w0 from rfl]
  have hmax := (looks_max ps (w0 :: wl) (0, ps.getD w0 noPk)).2
  have hfirst := looks_first ps (w0 :: wl) (0, ps.getD w0 noPk)
  have hcom := looks_commit ps (w0 :: wl) (0, ps.getD w0 noPk)
  generalize looks ps (w0 :: wl) (0, ps.getD w0 noPk) = s at *
  obtain ⟨sc, sp⟩ := s
  simp only at hmax hfirst hcom ⊢
  -- the same pack
  have hsp : sp = x.2 := by
    obtain ⟨i, hi, hip, hbef⟩ : ∃ i ∈ w0 :: wl, sp = ps.getD i noPk ∧ ∀ j ∈ w0 :: wl, j < i → (ps.getD i noPk).better (ps.getD j noPk) = true := by
      rcases hfirst with e | ⟨l1, i, l2, he, e, e1, e2⟩
      · refine ⟨w0, List.mem_cons_self, e, fun j hj hlt => ?_⟩
        rcases List.mem_cons.1 hj with rfl | hj
        · omega
        · have := (List.pairwise_cons.1 hsort).1 j hj
          omega
      · refine ⟨i, by rw [he]; simp, e, fun j hj hlt => ?_⟩
        rw [he] at hj hsort
        rcases List.mem_append.1 hj with hj | hj
        · exact e2 j hj
        · rcases List.mem_cons.1 hj with rfl | hj
          · omega
          · have := (List.pairwise_cons.1 (List.pairwise_append.1 hsort).2.1).1 j hj
            omega
    obtain ⟨y, hy, hyi, hyp⟩ := hof i hi
    have hax := r2' y hy
    have hxi := hto x hxl
    have hxp := H.p x hxl
    have hmx := hmax x.1 hxi
    rw [hxp, hip, hyp] at hmx
    rw [hip, hyp]
    unfold ahead at hax
    have hle := hax.2 hmx
    rw [hyi] at hle
    rcases Nat.lt_or_ge x.1 i with hlt | hge
    · have := hbef x.1 hxi hlt
      rw [hyp, hxp, hax.1] at this
      cases this
    · have : x.1 = i := by omega
      rw [← hyp, ← this, hxp]
  have hsc : sc = cm := by
    have a1 : sc ≤ cm := by
      rcases hcom.2.2 with e | ⟨j, hj, e⟩
      · omega
      · obtain ⟨y, hy, -, hyp⟩ := hof j hj
        rw [e, hyp]
        exact r4' y hy
    have a2 : cm ≤ sc := by
      rcases r5' with e | ⟨y, hy, e⟩
      · have := hcom.1; omega
      · rw [e, ← H.p y hy]
        exact hcom.2.1 y.1 (hto y hy)
    omega
  rw [hsp, hsc]
  congr 1
  split <;> split <;> omega
theorem Held.nil (ps : List Pk) : Held no7 ps [] := ⟨bitsOf_nil.symm, List.nodup_nil, (fun x h => by cases h), (fun x h => by cases h)⟩
theorem Held.add {h : List Bool} {ps : List Pk} {l : List (Nat × Pk)} (H : Held h ps l) {k : Nat} (hk : k < 7) (hn : k ∉ l.map (·.1)) (hps : ps.length = 7) (p : Pk) : Held (h.set k true) (ps.set k p) (l ++ [(k, p)]) := by
  refine ⟨by rw [H.h, bitsOf_add, List.map_append]; rfl, ?_, ?_, ?_⟩
  · rw [List.map_append, List.nodup_append]
    refine ⟨H.nd, by simp, fun a ha b hb => ?_⟩
    simp at hb
    subst hb
    intro e
    exact hn (e ▸ ha)
  · intro x hx
    rcases List.mem_append.1 hx with hx | hx
    · exact H.lt x hx
    · simp at hx; subst hx; exact hk
  · intro x hx
    rcases List.mem_append.1 hx with hx | hx
    · have hne : k ≠ x.1 := fun e => hn (e ▸ List.mem_map.2 ⟨x, hx, rfl⟩)
      rw [← H.p x hx]
      simp [List.getD, hne]
    · simp at hx; subst hx
      simp [List.getD, hps, hk]
/-- A pack in another one's place. -/
def putP (l : List (Nat × Pk)) (i : Nat) (p : Pk) : List (Nat × Pk) := l.set i ((l.getD i (0, noPk)).1, p)
theorem putP_map (l : List (Nat × Pk)) {i : Nat} (hi : i < l.length) (p : Pk) : (putP l i p).map (·.1) = l.map (·.1) := by
  unfold putP
  rw [List.map_set]
  refine List.ext_getElem (by simp) fun j h1 h2 => ?_
  rw [List.getElem_set]
  split
  · rename_i e
    subst e
    simp [List.getD, hi]
  · rfl
theorem Held.put {h : List Bool} {ps : List Pk} {l : List (Nat × Pk)} (H : Held h ps l) {k i : Nat} (hk : k < 7) (hi : i < l.length) (hik : l[i].1 = k) (hps : ps.length = 7) (p : Pk) : Held (h.set k true) (ps.set k p) (putP l i p) := by
  have hat : l.getD i (0, noPk) = l[i] := by simp [List.getD, List.getElem?_eq_getElem hi]
  have hm : k ∈ l.map (·.1) := by rw [← hik]; exact List.mem_map.2 ⟨_, List.getElem_mem hi, rfl⟩
  have hmem : ∀ x ∈ putP l i p, x = (k, p) ∨ (x ∈ l ∧ x.1 ≠ k) := by
    intro x hx
    unfold putP at hx
    obtain ⟨j, hj, rfl⟩ := List.getElem_of_mem hx
    rw [List.length_set] at hj
    rw [List.getElem_set]
    split
    · rename_i e
      exact .inl (by rw [hat, hik])
    · rename_i e
      refine .inr ⟨List.getElem_mem hj, fun e2 => e ?_⟩
      have hpw := List.pairwise_iff_getElem.1 H.nd
      rcases Nat.lt_trichotomy i j with h | h | h
      · exact (hpw i j (by simpa using hi) (by simpa using hj) h (by rw [List.getElem_map, List.getElem_map, hik, e2])).elim
      · exact h
      · exact (hpw j i (by simpa using hj) (by simpa using hi) h (by rw [List.getElem_map, List.getElem_map, hik, e2])).elim
  refine ⟨by rw [H.h, bitsOf_same hm, putP_map l hi], by rw [putP_map l hi]; exact H.nd, ?_, ?_⟩
  · intro x hx
    rcases hmem x hx with rfl | ⟨hx, -⟩
    · exact hk
    · exact H.lt x hx
  · intro x hx
    rcases hmem x hx with rfl | ⟨hx, hne⟩
    · simp [List.getD, hps, hk]
    · rw [← H.p x hx]
      simp [List.getD, Ne.symm hne]
end Go.Proofs.Ytgmekodfkhihiaa
