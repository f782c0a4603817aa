/-
  ChangePlays: the change and the document's change answer alike to each call; what both are beside each other in memory.
-/
import Derived.Test.YtgmekodfkhihiaaRf22C
import Derived.Test.YtgmekodfkhihiaaNone22
namespace Go.Proofs.Ytgmekodfkhihiaa
open Go.RowKit Go.Maps
set_option linter.unusedSimpArgs false
set_option linter.unusedVariables false

/-- Both say the same. -/
structure Lk (v : Int) (t h : List Bool) (ps : List Pk) (tell : List Nat) (l : List (Nat × Pk)) : Prop where
  t : t = bitsOf tell
  tn : tell.Nodup
  tl : ∀ j ∈ tell, j < 7
  h : Held h ps l
  ok : ∀ p ∈ ps, PkOk p
  pl : ps.length = 7
  v0 : 0 ≤ v
  v1 : v < 18446744073709551616
/-- A change that went on. -/
def ChTo (W W' : World) (S : Nat → Prop) (cb vb g : Nat) (n me v : Int) (t h : List Bool) (ps : List Pk) : Prop :=
  ∃ S', ChAt W' S' cb vb g n me v t h ps ∧ (∀ j, S' j → S j ∨ W.heap.size ≤ j) ∧ (∀ j, S' j → j < W'.heap.size) ∧ Ext (fun j => j = cb ∨ j = g) W W'
def RfTo (W W' : World) (R A : Nat → Prop) (b : Nat) (n me v : Int) (tell : List Nat) (l : List (Nat × Pk)) : Prop :=
  ∃ R', RCh W' R' A b n me v tell l ∧ (∀ j, R' j → R j ∨ W.heap.size ≤ j) ∧ Ext R W W'
section
variable {n me v : Int} {t h : List Bool} {ps : List Pk} {tell : List Nat} {l : List (Nat × Pk)}
theorem Lk.t7 (H : Lk v t h ps tell l) : tell.length ≤ 7 := by
  rw [← whoL_bits H.tl H.tn]
  have := whoL_le (bitsOf tell)
  rw [bitsOf_len] at this
  exact this
theorem Lk.l7 (H : Lk v t h ps tell l) : l.length ≤ 7 := by
  rw [← H.h.len]
  have := whoL_le h
  rw [H.h.h, bitsOf_len] at this
  rw [H.h.h]
  exact this
theorem ChTo.same {W : World} {S : Nat → Prop} {cb vb g : Nat} (H : ChAt W S cb vb g n me v t h ps) (hS : ∀ j, S j → j < W.heap.size) : ChTo W W S cb vb g n me v t h ps := ⟨S, H, fun _ h => .inl h, hS, Ext.refl _ _⟩
theorem ChTo.below {W W' : World} {S : Nat → Prop} {cb vb g : Nat} (H : ChAt W S cb vb g n me v t h ps) (hS : ∀ j, S j → j < W.heap.size) (hb : Below W.heap.size W W') : ChTo W W' S cb vb g n me v t h ps := ⟨S, H.below hb, fun _ h => .inl h, fun j hj => Nat.lt_of_lt_of_le (hS j hj) hb.size, Ext.of_below _ hb⟩
theorem RfTo.same {W : World} {R A : Nat → Prop} {b : Nat} (H : RCh W R A b n me v tell l) : RfTo W W R A b n me v tell l := ⟨R, H, fun _ h => .inl h, Ext.refl _ _⟩
theorem RfTo.below {W W' : World} {R A : Nat → Prop} {b : Nat} (H : RCh W R A b n me v tell l) (hb : Below W.heap.size W W') : RfTo W W' R A b n me v tell l := ⟨R, H.below hb, fun _ h => .inl h, Ext.of_below _ hb⟩

/-- Start, in both. -/
theorem both_Start (L : Lk v t h ps tell l) {vn : Int} (h0 : 0 ≤ vn) (h1 : vn < 18446744073709551616) : ∃ (e v' : Int) (t' h' : List Bool) (tell' : List Nat) (l' : List (Nat × Pk)), Lk v' t' h' ps tell' l' ∧
    (∀ (W : World) (S : Nat → Prop) (cb vb g : Nat), ChAt W S cb vb g n me v t h ps → (∀ j, S j → j < W.heap.size) → Calls Try.prog 9 #[.pointer (some ⟨cb, 0, none⟩), .int .u64 vn] W fun x W' => x = .returned (.int .i64 e) ∧ ChTo W W' S cb vb g n me v' t' h' ps) ∧
    (∀ (W : World) (R A : Nat → Prop) (b : Nat), RCh W R A b n me v tell l → (∀ j, A j → ¬ R j) → Calls Try.prog 18 #[.pointer (some ⟨b, 0, none⟩), .int .u64 vn] W fun x W' => x = .returned (.int .i64 e) ∧ RfTo W W' R A b n me v' tell' l') := by
  rcases Int.lt_trichotomy vn v with hlt | heq | hgt
  · refine ⟨1, v, t, h, tell, l, L, fun W S cb vb g H hS => (ch_Start_arg H hlt).mono ?_, fun W R A b H hA => ?_⟩
    · rintro x W' ⟨rfl, rfl⟩
      exact ⟨rfl, ChTo.same H hS⟩
    · obtain ⟨tp, tc, lp, lc, H⟩ := H
      refine (rf_Start_arg H hlt).mono ?_
      rintro x W' ⟨rfl, rfl⟩
      exact ⟨rfl, RfTo.same ⟨tp, tc, lp, lc, H⟩⟩
  · subst heq
    refine ⟨0, vn, t, h, tell, l, L, fun W S cb vb g H hS => (ch_Start H h0 h1 (Int.le_refl _)).mono ?_, fun W R A b H hA => ?_⟩
    · rintro x W' ⟨rfl, hc, hE⟩
      have e : ∀ b : List Bool, newT vn vn b = b := fun b => by unfold newT; rw [if_neg (by omega)]
      rw [e, e] at hc
      exact ⟨rfl, S, hc, fun _ h => .inl h, fun j hj => Nat.lt_of_lt_of_le (hS j hj) hE.size, hE⟩
    · obtain ⟨tp, tc, lp, lc, H⟩ := H
      refine (rf_Start_same H hA).mono ?_
      rintro x W' ⟨rfl, hr, hE⟩
      exact ⟨rfl, R, hr, fun _ h => .inl h, hE⟩
  · refine ⟨0, vn, no7, no7, [], [], ⟨bitsOf_nil.symm, List.nodup_nil, (fun j hj => by cases hj), Held.nil ps, L.ok, L.pl, h0, h1⟩, fun W S cb vb g H hS => (ch_Start H h0 h1 (by omega)).mono ?_, fun W R A b H hA => ?_⟩
    · rintro x W' ⟨rfl, hc, hE⟩
      have e : ∀ b : List Bool, newT v vn b = no7 := fun b => by unfold newT; rw [if_pos hgt]
      rw [e, e] at hc
      exact ⟨rfl, S, hc, fun _ h => .inl h, fun j hj => Nat.lt_of_lt_of_le (hS j hj) hE.size, hE⟩
    · obtain ⟨tp, tc, lp, lc, H⟩ := H
      refine (rf_Start_new H hgt hA).mono ?_
      rintro x W' ⟨rfl, hr, hE⟩
      exact ⟨rfl, R, hr, fun _ h => .inl h, hE⟩
theorem More.or {S : Nat → Prop} {W W' : World} : ∀ j, More S W W' j → S j ∨ W.heap.size ≤ j := fun j hj => hj.elim (fun h => .inl h.1) (fun h => .inr h.1)
theorem More.lt_ {S : Nat → Prop} {W W' : World} (hz : W.heap.size ≤ W'.heap.size) : ∀ j, More S W W' j → j < W'.heap.size := fun j hj => hj.elim (fun h => Nat.lt_of_lt_of_le h.2 hz) (fun h => h.2)
/-- Told, in both. -/
theorem both_Told (hk : NumOk n me) (L : Lk v t h ps tell l) (vn k : Int) : ∃ (r : Bool) (e : Int) (t' : List Bool) (tell' : List Nat), Lk v t' h ps tell' l ∧
    (∀ (W : World) (S : Nat → Prop) (cb vb g : Nat), ChAt W S cb vb g n me v t h ps → (∀ j, S j → j < W.heap.size) → Calls Try.prog 15 #[.pointer (some ⟨cb, 0, none⟩), .int .u64 vn, .int .i64 k] W fun x W' => x = .returned (.tuple #[.bool r, .int .i64 e]) ∧ ChTo W W' S cb vb g n me v t' h ps) ∧
    (∀ (W : World) (R A : Nat → Prop) (b : Nat), RCh W R A b n me v tell l → (∀ j, A j → ¬ R j) → Calls Try.prog 19 #[.pointer (some ⟨b, 0, none⟩), .int .u64 vn, .int .i64 k] W fun x W' => x = .returned (.tuple #[.bool r, .int .i64 e]) ∧ RfTo W W' R A b n me v tell' l) := by
  have hn := hk.1
  have t7 := L.t7
  by_cases ha : k < 0 ∨ n ≤ k ∨ k = me
  · refine ⟨false, 1, t, tell, L, fun W S cb vb g H hS => (ch_Told_arg H ha).mono ?_, fun W R A b H hA => ?_⟩
    · rintro x W' ⟨rfl, rfl⟩
      exact ⟨rfl, ChTo.same H hS⟩
    · obtain ⟨tp, tc, lp, lc, H⟩ := H
      refine (rf_Told_arg H ha).mono ?_
      rintro x W' ⟨rfl, rfl⟩
      exact ⟨rfl, RfTo.same ⟨tp, tc, lp, lc, H⟩⟩
  · by_cases hv : vn = v
    · subst hv
      obtain ⟨j, rfl⟩ := Int.eq_ofNat_of_zero_le (show 0 ≤ k by omega)
      have hj1 : (j : Int) < n := by omega
      have hj2 : (j : Int) ≠ me := by omega
      by_cases hin : j ∈ tell
      · have e : t.set j true = t := by rw [L.t]; exact bitsOf_same hin
        refine ⟨false, 0, t, tell, L, fun W S cb vb g H hS => (ch_Told H hk hj1 hj2 e).mono ?_, fun W R A b H hA => ?_⟩
        · rintro x W' ⟨rfl, hc, hE⟩
          rw [justB_self]
          exact ⟨rfl, S, hc, fun _ h => .inl h, fun j hj => Nat.lt_of_lt_of_le (hS j hj) hE.size, hE.mono (fun _ _ e => .inr e)⟩
        · obtain ⟨tp, tc, lp, lc, H⟩ := H
          refine (rf_Told_old H hj1 hj2 t7 hin).mono ?_
          rintro x W' ⟨rfl, rfl⟩
          exact ⟨rfl, RfTo.same ⟨tp, tc, lp, lc, H⟩⟩
      · have e : t.set j true = bitsOf (tell ++ [j]) := by rw [L.t]; exact bitsOf_add
        have hj7 : j < 7 := by omega
        refine ⟨decide ((tell.length : Int) + 1 = n / 2), 0, bitsOf (tell ++ [j]), tell ++ [j], ⟨rfl, ?_, ?_, L.h, L.ok, L.pl, L.v0, L.v1⟩, fun W S cb vb g H hS => (ch_Told H hk hj1 hj2 e).mono ?_, fun W R A b H hA => ?_⟩
        · rw [List.nodup_append]
          refine ⟨L.tn, by simp, fun a ha1 b hb1 => ?_⟩
          simp at hb1
          intro e
          rw [hb1] at e
          exact hin (e ▸ ha1)
        · intro i hi
          rcases List.mem_append.1 hi with hi | hi
          · exact L.tl i hi
          · simp at hi; omega
        · rintro x W' ⟨rfl, hc, hE⟩
          rw [show justB t (bitsOf (tell ++ [j])) (n / 2) = decide ((tell.length : Int) + 1 = n / 2) from by rw [L.t]; exact justB_add L.tl L.tn hj7 hin]
          exact ⟨rfl, S, hc, fun _ h => .inl h, fun j hj => Nat.lt_of_lt_of_le (hS j hj) hE.size, hE.mono (fun _ _ e => .inr e)⟩
        · obtain ⟨tp, tc, lp, lc, H⟩ := H
          refine (rf_Told_new H (by omega) hj1 hj2 t7 hin hA).mono ?_
          rintro x W' ⟨rfl, hr, hE⟩
          exact ⟨rfl, _, hr, More.or, hE⟩
    · refine ⟨false, 39, t, tell, L, fun W S cb vb g H hS => (ch_Told_state H hk (by omega) (by omega) (by omega) hv).mono ?_, fun W R A b H hA => ?_⟩
      · rintro x W' ⟨rfl, rfl⟩
        exact ⟨rfl, ChTo.same H hS⟩
      · obtain ⟨tp, tc, lp, lc, H⟩ := H
        refine (rf_Told_state H (by omega) (by omega) (by omega) hv).mono ?_
        rintro x W' ⟨rfl, rfl⟩
        exact ⟨rfl, RfTo.same ⟨tp, tc, lp, lc, H⟩⟩
theorem getD_in {l : List (Nat × Pk)} {i : Nat} (hi : i < l.length) : l.getD i (0, noPk) = l[i] := by simp [List.getD, List.getElem?_eq_getElem hi]
theorem nodup_at {l : List (Nat × Pk)} (hn : (l.map (·.1)).Nodup) {i j : Nat} (hi : i < l.length) (hj : j < l.length) (e : l[i].1 = l[j].1) : i = j := by
  have hp := List.pairwise_iff_getElem.1 hn
  rcases Nat.lt_trichotomy i j with h | h | h
  · exact (hp i j (by simpa using hi) (by simpa using hj) h (by rw [List.getElem_map, List.getElem_map, e])).elim
  · exact h
  · exact (hp j i (by simpa using hj) (by simpa using hi) h (by rw [List.getElem_map, List.getElem_map, e])).elim
/-- Hand, in both. -/
theorem both_Hand (hk : NumOk n me) (L : Lk v t h ps tell l) (vn k : Int) {pl pb pc : Int} {es : List Ent} (hf : Fits es) (hn64 : es.length ≤ 1152921504606846976) (hb0 : 0 ≤ pb) (hc0 : 0 ≤ pc) : ∃ (r : Bool) (e : Int) (h' : List Bool) (ps' : List Pk) (l' : List (Nat × Pk)), Lk v t h' ps' tell l' ∧
    (∀ (W : World) (S T : Nat → Prop) (cb vb g : Nat) (p : Option Addr) (d : Nat), ChAt W S cb vb g n me v t h ps → (∀ j, S j → j < W.heap.size) → EntsRd W T (.slice p es.length d) es → (∀ j, T j → j < W.heap.size) → ¬ T g → Calls Try.prog 10 #[.pointer (some ⟨cb, 0, none⟩), .int .u64 vn, .int .i64 k, .agg #[.int .u64 pl, .int .u64 pb, .int .u64 pc, .slice p es.length d]] W fun x W' => x = .returned (.tuple #[.bool r, .int .i64 e]) ∧ ChTo W W' S cb vb g n me v t h' ps') ∧
    (∀ (W : World) (R A : Nat → Prop) (b : Nat) (p : Option Addr) (d : Nat), RCh W R A b n me v tell l → (∀ j, A j → ¬ R j) → (∀ j, A j → j < W.heap.size) → EntsRd W A (.slice p es.length d) es → Calls Try.prog 20 #[.pointer (some ⟨b, 0, none⟩), .int .u64 vn, .int .i64 k, .agg #[.int .u64 pl, .int .u64 pb, .int .u64 pc, .slice p es.length d]] W fun x W' => x = .returned (.tuple #[.bool r, .int .i64 e]) ∧ RfTo W W' R A b n me v tell l') := by
  have hn := hk.1
  have l7 := L.l7
  by_cases ha : k < 0 ∨ n ≤ k
  · refine ⟨false, 1, h, ps, l, L, fun W S T cb vb g p d H hS hs hT hTg => (ch_Hand_from H ha).mono ?_, fun W R A b p d H hA hAw hs => ?_⟩
    · rintro x W' ⟨rfl, hb⟩
      exact ⟨rfl, ChTo.below H hS hb⟩
    · obtain ⟨tp, tc, lp, lc, H⟩ := H
      refine (rf_Hand_from H ha).mono ?_
      rintro x W' ⟨rfl, hb⟩
      exact ⟨rfl, RfTo.below ⟨tp, tc, lp, lc, H⟩ hb⟩
  · have hk0 : 0 ≤ k := by omega
    have hkn : k < n := by omega
    cases hm : mayB pl pb pc es with
    | false =>
      refine ⟨false, 1, h, ps, l, L, fun W S T cb vb g p d H hS hs hT hTg => (ch_Hand_may H hk0 hkn hs hm hb0 hn64).mono ?_, fun W R A b p d H hA hAw hs => ?_⟩
      · rintro x W' ⟨rfl, hb⟩
        exact ⟨rfl, ChTo.below H hS hb⟩
      · obtain ⟨tp, tc, lp, lc, H⟩ := H
        refine (rf_Hand_may H hk0 hkn hs hn64 hb0 hm).mono ?_
        rintro x W' ⟨rfl, hb⟩
        exact ⟨rfl, RfTo.below ⟨tp, tc, lp, lc, H⟩ hb⟩
    | true =>
      by_cases hv : vn = v
      · subst hv
        obtain ⟨j, rfl⟩ := Int.eq_ofNat_of_zero_le hk0
        have hj7 : j < 7 := by omega
        have hpo : PkOk ⟨pl, pb, pc, es⟩ := ⟨hm, hb0, hc0⟩
        have hps' : ∀ p ∈ ps.set j ⟨pl, pb, pc, es⟩, PkOk p := fun p hp => by
          rcases List.mem_or_eq_of_mem_set hp with h | rfl
          · exact L.ok p h
          · exact hpo
        by_cases hin : j ∈ l.map (·.1)
        · obtain ⟨x0, hx0, hx1⟩ := List.mem_map.1 hin
          obtain ⟨i, hi, rfl⟩ := List.getElem_of_mem hx0
          have e : h.set j true = h := by rw [L.h.h]; exact bitsOf_same hin
          refine ⟨false, 0, h, ps.set j ⟨pl, pb, pc, es⟩, putP l i ⟨pl, pb, pc, es⟩, ⟨L.t, L.tn, L.tl, ?_, hps', by rw [List.length_set]; exact L.pl, L.v0, L.v1⟩, fun W S T cb vb g p d H hS hs hT hTg => (ch_Hand H hk hkn hs hf hT hTg hS hm hb0 hn64 e).mono ?_, fun W R A b p d H hA hAw hs => ?_⟩
          · have := Held.put L.h hj7 hi hx1 L.pl ⟨pl, pb, pc, es⟩
            rw [e] at this
            exact this
          · rintro x W' ⟨rfl, hc, hE⟩
            rw [justB_self]
            exact ⟨rfl, _, hc, More.or, More.lt_ hE.size, hE⟩
          · obtain ⟨tp, tc, lp, lc, H⟩ := H
            refine (rf_Hand_old H hkn hs hn64 hb0 hm l7 hi hx1 hA hAw).mono ?_
            rintro x W' ⟨i', hi', hx', rfl, hr, hE⟩
            rw [getD_in hi'] at hx'
            obtain rfl := nodup_at L.h.nd hi' hi (hx'.trans hx1.symm)
            exact ⟨rfl, R, hr, fun _ h => .inl h, hE⟩
        · have e : h.set j true = bitsOf (l.map (·.1) ++ [j]) := by rw [L.h.h]; exact bitsOf_add
          have hH := Held.add L.h hj7 hin L.pl ⟨pl, pb, pc, es⟩
          rw [e] at hH
          refine ⟨decide ((l.length : Int) + 1 = n / 2 + 1), 0, bitsOf (l.map (·.1) ++ [j]), ps.set j ⟨pl, pb, pc, es⟩, l ++ [(j, ⟨pl, pb, pc, es⟩)], ⟨L.t, L.tn, L.tl, hH, hps', by rw [List.length_set]; exact L.pl, L.v0, L.v1⟩, fun W S T cb vb g p d H hS hs hT hTg => (ch_Hand H hk hkn hs hf hT hTg hS hm hb0 hn64 e).mono ?_, fun W R A b p d H hA hAw hs => ?_⟩
          · rintro x W' ⟨rfl, hc, hE⟩
            rw [show justB h (bitsOf (l.map (·.1) ++ [j])) (n / 2 + 1) = decide ((l.length : Int) + 1 = n / 2 + 1) from by
              rw [L.h.h, justB_add L.h.lt7 L.h.nd hj7 hin, List.length_map]]
            exact ⟨rfl, _, hc, More.or, More.lt_ hE.size, hE⟩
          · obtain ⟨tp, tc, lp, lc, H⟩ := H
            refine (rf_Hand_new H (by omega) hkn hs hn64 hb0 hm l7 hin hA).mono ?_
            rintro x W' ⟨rfl, hr, hE⟩
            exact ⟨rfl, _, hr, More.or, hE⟩
      · refine ⟨false, 39, h, ps, l, L, fun W S T cb vb g p d H hS hs hT hTg => (ch_Hand_state H hk hk0 hkn hs hm hb0 hn64 hv).mono ?_, fun W R A b p d H hA hAw hs => ?_⟩
        · rintro x W' ⟨rfl, hb⟩
          exact ⟨rfl, ChTo.below H hS hb⟩
        · obtain ⟨tp, tc, lp, lc, H⟩ := H
          refine (rf_Hand_state H hk0 hkn hs hn64 hb0 hm hv).mono ?_
          rintro x W' ⟨rfl, hb⟩
          exact ⟨rfl, RfTo.below ⟨tp, tc, lp, lc, H⟩ hb⟩
/-- Best, in both. -/
theorem both_Best (hk : NumOk n me) (L : Lk v t h ps tell l) : ∃ (P : Pk) (r : Bool), P.es.length ≤ 64 ∧
    (∀ (W : World) (S : Nat → Prop) (cb vb g : Nat), ChAt W S cb vb g n me v t h ps → (∀ j, S j → j < W.heap.size) → Calls Try.prog 11 #[.pointer (some ⟨cb, 0, none⟩)] W fun x W' => ∃ p d, x = .returned (.tuple #[.agg #[.int .u64 P.l, .int .u64 P.b, .int .u64 P.c, .slice p P.es.length d], .bool r]) ∧ EntsOwn W' W.heap.size (.slice p P.es.length d) P.es ∧ Below W.heap.size W W') ∧
    (∀ (W : World) (R A : Nat → Prop) (b : Nat), RCh W R A b n me v tell l → (∀ j, A j → j < W.heap.size) → Calls Try.prog 22 #[.pointer (some ⟨b, 0, none⟩)] W fun x W' => ∃ p d, x = .returned (.tuple #[.agg #[.int .u64 P.l, .int .u64 P.b, .int .u64 P.c, .slice p P.es.length d], .bool r]) ∧ EntsRd W' A (.slice p P.es.length d) P.es ∧ Below W.heap.size W W') := by
  have hn := hk.1
  have l7 := L.l7
  have hlen := L.h.len
  by_cases hen : n / 2 + 1 ≤ ((whoL h).length : Int)
  · have hen2 : n / 2 + 1 ≤ (l.length : Int) := by omega
    have hb := best_same L.h (show 0 < l.length by omega)
    refine ⟨refBest l, true, ?_, fun W S cb vb g H hS => ?_, fun W R A b H hAw => ?_⟩
    · rw [← hb]; exact bestOf_len L.ok _
    · have := ch_Best H hk hS L.ok hen
      rw [hb] at this
      exact this
    · obtain ⟨tp, tc, lp, lc, H⟩ := H
      refine rf_Best H (by omega) (by omega) l7 hen2 (fun x hx => ?_) hAw
      rw [← L.h.p x hx]
      exact pk_at L.ok _
  · refine ⟨noPk, false, by decide, fun W S cb vb g H hS => (ch_Best_few H hk (by omega)).mono ?_, fun W R A b H hAw => ?_⟩
    · rintro x W' ⟨rfl, hb⟩
      exact ⟨none, 0, rfl, ⟨[], World.ownsRow_nil _ _ _ _, Els.nil _ _⟩, hb⟩
    · obtain ⟨tp, tc, lp, lc, H⟩ := H
      refine (rf_Best_few H (by omega) (by omega) l7 (by omega)).mono ?_
      rintro x W' ⟨rfl, hb⟩
      exact ⟨none, 0, rfl, (nil_rd4 W').keep (fun _ _ h => h.elim) (fun _ h _ => h.elim), hb⟩
end

/-! ## Both beside each other -/
/-- n0: where the call began; T: what the arguments hold; F: blocks that neither of both turns. -/
structure PS (n0 : Nat) (w : World) (T F S R : Nat → Prop) (cb vb g rb : Nat) (n me v : Int) (t h : List Bool) (ps : List Pk) (v2 : Int) (tell : List Nat) (l : List (Nat × Pk)) : Prop where
  c : ChAt w S cb vb g n me v t h ps
  r : RCh w R T rb n me v2 tell l
  Sl : ∀ j, S j → j < w.heap.size
  R0 : ∀ j, R j → n0 ≤ j
  g0 : n0 ≤ cb ∧ n0 ≤ vb ∧ n0 ≤ g
  d : ∀ j, R j → ¬ S j ∧ j ≠ cb ∧ j ≠ vb ∧ j ≠ g
  z : n0 ≤ w.heap.size
  Tl : ∀ j, T j → j < n0
  f : ∀ j, F j → j < w.heap.size ∧ ¬ S j ∧ ¬ R j ∧ j ≠ cb ∧ j ≠ vb ∧ j ≠ g
section
variable {n0 : Nat} {w w' : World} {T F F' S R : Nat → Prop} {cb vb g rb : Nat} {n me v v2 v' : Int} {t h t' h' : List Bool} {ps ps' : List Pk} {tell tell' : List Nat} {l l' : List (Nat × Pk)}
theorem PS.TR (H : PS n0 w T F S R cb vb g rb n me v t h ps v2 tell l) : ∀ j, T j → ¬ R j := fun j hj hr => by
  have := H.Tl j hj
  have := H.R0 j hr
  omega
theorem PS.Tw (H : PS n0 w T F S R cb vb g rb n me v t h ps v2 tell l) : ∀ j, T j → j < w.heap.size := fun j hj => Nat.lt_of_lt_of_le (H.Tl j hj) H.z
theorem PS.ext {M : Nat → Prop} (H : PS n0 w T F S R cb vb g rb n me v t h ps v2 tell l) (hE : Ext M w w') (hM : ∀ j, M j → n0 ≤ j ∧ ¬ S j ∧ ¬ R j ∧ j ≠ cb ∧ j ≠ vb ∧ j ≠ g) : PS n0 w' T F S R cb vb g rb n me v t h ps v2 tell l :=
  ⟨H.c.ext hE (fun j hj hm => (hM j hm).2.1 hj) (fun hm => (hM _ hm).2.2.2.1 rfl) (fun hm => (hM _ hm).2.2.2.2.1 rfl) (fun hm => (hM _ hm).2.2.2.2.2 rfl),
   H.r.ext hE (fun j hj hm => (hM j hm).2.2.1 hj) (fun j hj hm => by have := H.Tl j hj; have := (hM j hm).1; omega),
   fun j hj => Nat.lt_of_lt_of_le (H.Sl j hj) hE.size, H.R0, H.g0, H.d, Nat.le_trans H.z hE.size, H.Tl, fun j hj => ⟨Nat.lt_of_lt_of_le (H.f j hj).1 hE.size, (H.f j hj).2⟩⟩
theorem PS.below (H : PS n0 w T F S R cb vb g rb n me v t h ps v2 tell l) (hb : Below w.heap.size w w') : PS n0 w' T F S R cb vb g rb n me v t h ps v2 tell l :=
  H.ext (Ext.of_below (fun _ => False) hb) (fun _ h => h.elim)
theorem PS.chg (H : PS n0 w T F S R cb vb g rb n me v t h ps v2 tell l) (hc : ChTo w w' S cb vb g n me v' t' h' ps') : ∃ S', PS n0 w' T F S' R cb vb g rb n me v' t' h' ps' v2 tell l := by
  obtain ⟨S', hC, h1, h2, hE⟩ := hc
  have hRl := H.r.lt.1
  refine ⟨S', hC, H.r.ext hE (fun j hj hm => ?_) (fun j hj hm => ?_), h2, H.R0, H.g0, fun j hj => ⟨fun hs => ?_, (H.d j hj).2⟩, Nat.le_trans H.z hE.size, H.Tl, fun j hj => ⟨Nat.lt_of_lt_of_le (H.f j hj).1 hE.size, fun hs => ?_, (H.f j hj).2.2⟩⟩
  · have := (H.d j hj).2; omega
  · have := H.Tl j hj; have := H.g0; omega
  · rcases h1 j hs with hs | hs
    · exact (H.d j hj).1 hs
    · have := hRl j hj; omega
  · rcases h1 j hs with hs | hs
    · exact (H.f j hj).2.1 hs
    · have := (H.f j hj).1; omega
theorem PS.ref (H : PS n0 w T F S R cb vb g rb n me v t h ps v2 tell l) (hr : RfTo w w' R T rb n me v' tell' l') : ∃ R', PS n0 w' T F S R' cb vb g rb n me v t h ps v' tell' l' := by
  obtain ⟨R', hC, h1, hE⟩ := hr
  have hlt := H.c.lt
  refine ⟨R', H.c.ext hE (fun j hj hm => (H.d j hm).1 hj) (fun hm => (H.d _ hm).2.1 rfl) (fun hm => (H.d _ hm).2.2.1 rfl) (fun hm => (H.d _ hm).2.2.2 rfl), hC, fun j hj => Nat.lt_of_lt_of_le (H.Sl j hj) hE.size, fun j hj => ?_, H.g0, fun j hj => ?_, Nat.le_trans H.z hE.size, H.Tl, fun j hj => ⟨Nat.lt_of_lt_of_le (H.f j hj).1 hE.size, (H.f j hj).2.1, fun hr => ?_, (H.f j hj).2.2.2⟩⟩
  · rcases h1 j hj with h | h
    · exact H.R0 j h
    · exact Nat.le_trans H.z h
  · rcases h1 j hj with h | h
    · exact H.d j h
    · exact ⟨fun hs => by have := H.Sl j hs; omega, by omega, by omega, by omega⟩
  · rcases h1 j hr with h | h
    · exact (H.f j hj).2.2.1 h
    · have := (H.f j hj).1; omega
/-- Both, beside each other; each says what it says. -/
def GdC (n0 : Nat) (w : World) (T F : Nat → Prop) (cb rb : Nat) (n me v : Int) (t h : List Bool) (ps : List Pk) (v2 : Int) (tell : List Nat) (l : List (Nat × Pk)) : Prop := ∃ S R vb g, PS n0 w T F S R cb vb g rb n me v t h ps v2 tell l
/-- Both say the same. -/
def Gd (n0 : Nat) (w : World) (T F : Nat → Prop) (cb rb : Nat) (n me v : Int) : Prop := ∃ t h ps tell l, GdC n0 w T F cb rb n me v t h ps v tell l ∧ Lk v t h ps tell l
theorem GdC.below (H : GdC n0 w T F cb rb n me v t h ps v2 tell l) (hb : Below w.heap.size w w') : GdC n0 w' T F cb rb n me v t h ps v2 tell l := by
  obtain ⟨S, R, vb, g, hP⟩ := H
  exact ⟨S, R, vb, g, hP.below hb⟩
theorem Gd.below (H : Gd n0 w T F cb rb n me v) (hb : Below w.heap.size w w') : Gd n0 w' T F cb rb n me v := by
  obtain ⟨t, h, ps, tell, l, hP, hL⟩ := H
  exact ⟨t, h, ps, tell, l, hP.below hb, hL⟩
theorem GdC.spoil (H : GdC n0 w T F cb rb n me v t h ps v2 tell l) {M : Nat → Prop} (hE : Ext M w w') (hM : ∀ j, M j → n0 ≤ j ∧ F j) : GdC n0 w' T F cb rb n me v t h ps v2 tell l := by
  obtain ⟨S, R, vb, g, hP⟩ := H
  exact ⟨S, R, vb, g, hP.ext hE (fun j hj => ⟨(hM j hj).1, (hP.f j (hM j hj).2).2⟩)⟩
theorem Gd.spoil (H : Gd n0 w T F cb rb n me v) {M : Nat → Prop} (hE : Ext M w w') (hM : ∀ j, M j → n0 ≤ j ∧ F j) : Gd n0 w' T F cb rb n me v := by
  obtain ⟨t, h, ps, tell, l, hP, hL⟩ := H
  exact ⟨t, h, ps, tell, l, hP.spoil hE hM, hL⟩
/-- What is made beside both is turned by neither. -/
theorem Gd.add (H : Gd n0 w T F cb rb n me v) (hb : Below w.heap.size w w') (hF : ∀ j, F' j → F j ∨ (w.heap.size ≤ j ∧ j < w'.heap.size)) : Gd n0 w' T F' cb rb n me v := by
  obtain ⟨t, h, ps, tell, l, ⟨S, R, vb, g, hP⟩, hL⟩ := H
  have hlt := hP.c.lt
  have hRl := hP.r.lt.1
  refine ⟨t, h, ps, tell, l, ⟨S, R, vb, g, ?_⟩, hL⟩
  have hP' := hP.below hb
  refine ⟨hP'.c, hP'.r, hP'.Sl, hP'.R0, hP'.g0, hP'.d, hP'.z, hP'.Tl, fun j hj => ?_⟩
  rcases hF j hj with h | h
  · exact hP'.f j h
  · exact ⟨h.2, fun hs => by have := hP.Sl j hs; omega, fun hr => by have := hRl j hr; omega, by omega, by omega, by omega⟩
/-- A call of the change. -/
theorem GdC.c {f : FuncId} {args : Array Value} {E : Ending} (H : GdC n0 w T F cb rb n me v t h ps v2 tell l)
    (h1 : ∀ (S : Nat → Prop) (vb g : Nat), ChAt w S cb vb g n me v t h ps → (∀ j, S j → j < w.heap.size) → n0 ≤ g → ¬ F g → Calls Try.prog f args w fun x w' => x = E ∧ ChTo w w' S cb vb g n me v' t' h' ps') :
    Calls Try.prog f args w fun x w' => x = E ∧ GdC n0 w' T F cb rb n me v' t' h' ps' v2 tell l ∧ Ext (fun j => n0 ≤ j ∧ ¬ F j) w w' := by
  obtain ⟨S, R, vb, g, hP⟩ := H
  refine (h1 S vb g hP.c hP.Sl hP.g0.2.2 (fun hf => (hP.f g hf).2.2.2.2.2 rfl)).mono ?_
  rintro x w' ⟨rfl, hto⟩
  obtain ⟨S', hP'⟩ := hP.chg hto
  obtain ⟨_, _, _, _, hE⟩ := hto
  refine ⟨rfl, ⟨S', R, vb, g, hP'⟩, hE.mono (fun j _ hj => ?_)⟩
  rcases hj with rfl | rfl
  · exact ⟨hP.g0.1, fun hf => (hP.f _ hf).2.2.2.1 rfl⟩
  · exact ⟨hP.g0.2.2, fun hf => (hP.f _ hf).2.2.2.2.2 rfl⟩
/-- A call of the document's change. -/
theorem GdC.r {f : FuncId} {args : Array Value} {E : Ending} (H : GdC n0 w T F cb rb n me v t h ps v2 tell l)
    (h1 : ∀ (R : Nat → Prop), RCh w R T rb n me v2 tell l → (∀ j, T j → ¬ R j) → (∀ j, T j → j < w.heap.size) → Calls Try.prog f args w fun x w' => x = E ∧ RfTo w w' R T rb n me v' tell' l') :
    Calls Try.prog f args w fun x w' => x = E ∧ GdC n0 w' T F cb rb n me v t h ps v' tell' l' ∧ Ext (fun j => n0 ≤ j ∧ ¬ F j) w w' := by
  obtain ⟨S, R, vb, g, hP⟩ := H
  refine (h1 R hP.r hP.TR hP.Tw).mono ?_
  rintro x w' ⟨rfl, hto⟩
  obtain ⟨R', hP'⟩ := hP.ref hto
  obtain ⟨_, _, _, hE⟩ := hto
  exact ⟨rfl, ⟨S, R', vb, g, hP'⟩, hE.mono (fun j _ hj => ⟨hP.R0 j hj, fun hf => (hP.f j hf).2.2.1 hj⟩)⟩
theorem Gd.lk (H : Gd n0 w T F cb rb n me v) : 0 ≤ v ∧ v < 18446744073709551616 := by
  obtain ⟨t, h, ps, tell, l, hP, hL⟩ := H
  exact ⟨hL.v0, hL.v1⟩
theorem GdC.viewC (H : GdC n0 w T F cb rb n me v t h ps v2 tell l) : w.cell? ⟨rb, 2, none⟩ = some (.int .u64 v2) ∧ rb < w.heap.size := by
  obtain ⟨S, R, vb, g, hP⟩ := H
  obtain ⟨tp, tc, lp, lc, hr⟩ := hP.r
  exact ⟨hr.kb.cell 2, hr.kb.lt⟩
theorem Gd.view (H : Gd n0 w T F cb rb n me v) : w.cell? ⟨rb, 2, none⟩ = some (.int .u64 v) ∧ rb < w.heap.size := by
  obtain ⟨t, h, ps, tell, l, hP, hL⟩ := H
  exact hP.viewC
theorem Gd.viewF (H : Gd n0 w T F cb rb n me v) : Calls Try.prog 24 #[.pointer (some ⟨cb, 0, none⟩)] w fun x w' => x = .returned (.int .u64 v) ∧ w = w' := by
  obtain ⟨t, h, ps, tell, l, ⟨S, R, vb, g, hP⟩, hL⟩ := H
  exact ch_View hP.c
theorem Gd.best (hk : NumOk n me) (H : Gd n0 w T F cb rb n me v) : ∃ (P : Pk) (r : Bool), P.es.length ≤ 64 ∧
    (Calls Try.prog 11 #[.pointer (some ⟨cb, 0, none⟩)] w fun x w' => ∃ p d, x = .returned (.tuple #[.agg #[.int .u64 P.l, .int .u64 P.b, .int .u64 P.c, .slice p P.es.length d], .bool r]) ∧ EntsOwn w' w.heap.size (.slice p P.es.length d) P.es ∧ Below w.heap.size w w') ∧
    (∀ w1, Below w.heap.size w w1 → Calls Try.prog 22 #[.pointer (some ⟨rb, 0, none⟩)] w1 fun x w' => ∃ p d, x = .returned (.tuple #[.agg #[.int .u64 P.l, .int .u64 P.b, .int .u64 P.c, .slice p P.es.length d], .bool r]) ∧ EntsRd w' T (.slice p P.es.length d) P.es ∧ Below w1.heap.size w1 w') := by
  obtain ⟨t, h, ps, tell, l, ⟨S, R, vb, g, hP⟩, hL⟩ := H
  obtain ⟨P, r, h64, h1, h2⟩ := both_Best hk hL
  exact ⟨P, r, h64, h1 w S cb vb g hP.c hP.Sl, fun w1 hb => h2 w1 R T rb (hP.r.below hb) (hP.below hb).Tw⟩
/-- A change that is let go, or a copy that is turned. -/
structure Yc (n0 : Nat) (w : World) (T F : Nat → Prop) (cb rb xb : Nat) (n me v vx : Int) : Prop where
  ex : ∃ S R vb g t h ps tell l Sx xv xg tx hx px tellx lx, PS n0 w T F S R cb vb g rb n me v t h ps v tell l ∧ Lk v t h ps tell l ∧
    ChAt w Sx xb xv xg n me vx tx hx px ∧ (∀ j, Sx j → j < w.heap.size) ∧ Lk vx tx hx px tellx lx ∧ (∀ j, j = xb ∨ j = xg → (n0 ≤ j ∧ ¬ F j) ∧ ¬ S j ∧ ¬ R j ∧ j ≠ cb ∧ j ≠ vb ∧ j ≠ g)
theorem Yc.gd {xb : Nat} {vx : Int} (H : Yc n0 w T F cb rb xb n me v vx) : Gd n0 w T F cb rb n me v := by
  obtain ⟨S, R, vb, g, t, h, ps, tell, l, Sx, xv, xg, tx, hx, px, tellx, lx, hP, hL, -⟩ := H.ex
  exact ⟨t, h, ps, tell, l, ⟨S, R, vb, g, hP⟩, hL⟩
theorem Yc.below {xb : Nat} {vx : Int} (H : Yc n0 w T F cb rb xb n me v vx) (hb : Below w.heap.size w w') : Yc n0 w' T F cb rb xb n me v vx := by
  obtain ⟨S, R, vb, g, t, h, ps, tell, l, Sx, xv, xg, tx, hx, px, tellx, lx, hP, hL, hc, hS, hLx, hd⟩ := H.ex
  exact ⟨S, R, vb, g, t, h, ps, tell, l, Sx, xv, xg, tx, hx, px, tellx, lx, hP.below hb, hL, hc.below hb, fun j hj => Nat.lt_of_lt_of_le (hS j hj) hb.size, hLx, hd⟩
/-- A copy: it goes on in the change's place, or it is turned. -/
theorem Gd.copy (H : Gd n0 w T F cb rb n me v) : Calls Try.prog 21 #[.pointer (some ⟨cb, 0, none⟩)] w fun x w' => ∃ cb2, x = .returned (.pointer (some ⟨cb2, 0, none⟩)) ∧ Yc n0 w' T F cb2 rb cb n me v v ∧ Yc n0 w' T F cb rb cb2 n me v v ∧ Below w.heap.size w w' := by
  obtain ⟨t, h, ps, tell, l, ⟨S, R, vb, g, hP⟩, hL⟩ := H
  have hlt := hP.c.lt
  have hne := hP.c.ne
  have hRl := hP.r.lt.1
  refine (ch_Copy hP.c hP.Sl).mono ?_
  rintro x w' ⟨cb2, vb2, g2, rfl, hC, z1, z2, z3, hb⟩
  have hz := hP.z
  have hg0 := hP.g0
  have hnS := hP.c.nS
  have hP' := hP.below hb
  refine ⟨cb2, rfl, ⟨S, R, vb2, g2, t, h, ps, tell, l, S, vb, g, t, h, ps, tell, l, ⟨hC, hP'.r, hP'.Sl, hP.R0, by omega, fun j hj => ⟨(hP.d j hj).1, ?_⟩, hP'.z, hP.Tl, fun j hj => ⟨(hP'.f j hj).1, (hP.f j hj).2.1, (hP.f j hj).2.2.1, ?_⟩⟩, hL, hP'.c, hP'.Sl, hL, fun j hj => ?_⟩, ⟨S, R, vb, g, t, h, ps, tell, l, S, vb2, g2, t, h, ps, tell, l, hP', hL, hC, hP'.Sl, hL, fun j hj => ?_⟩, hb⟩
  · have := hRl j hj; omega
  · have := (hP.f j hj).1; omega
  · rcases hj with rfl | rfl
    · exact ⟨⟨hg0.1, fun hf => (hP.f _ hf).2.2.2.1 rfl⟩, hnS.1, fun hr => (hP.d _ hr).2.1 rfl, by omega, by omega, by omega⟩
    · exact ⟨⟨hg0.2.2, fun hf => (hP.f _ hf).2.2.2.2.2 rfl⟩, hnS.2.2, fun hr => (hP.d _ hr).2.2.2 rfl, by omega, by omega, by omega⟩
  · refine ⟨⟨by omega, fun hf => ?_⟩, fun hs => ?_, fun hr => ?_, by omega, by omega, by omega⟩
    · have := (hP.f j hf).1; omega
    · have := hP.Sl j hs; omega
    · have := hRl j hr; omega
theorem Yc.step {xb : Nat} {vx' : Int} {Sx : Nat → Prop} {S R : Nat → Prop} {vb g xv xg : Nat} {tx hx : List Bool} {px : List Pk} {tellx : List Nat} {lx : List (Nat × Pk)} (hP : PS n0 w T F S R cb vb g rb n me v t h ps v tell l) (hL : Lk v t h ps tell l) (hd : ∀ j, j = xb ∨ j = xg → (n0 ≤ j ∧ ¬ F j) ∧ ¬ S j ∧ ¬ R j ∧ j ≠ cb ∧ j ≠ vb ∧ j ≠ g)
    (hc : ChTo w w' Sx xb xv xg n me vx' tx hx px) (hLx : Lk vx' tx hx px tellx lx) : Yc n0 w' T F cb rb xb n me v vx' ∧ Ext (fun j => n0 ≤ j ∧ ¬ F j) w w' := by
  obtain ⟨S', hC, h1, h2, hE⟩ := hc
  exact ⟨⟨S, R, vb, g, t, h, ps, tell, l, S', xv, xg, tx, hx, px, tellx, lx, hP.ext hE (fun j hj => ⟨(hd j hj).1.1, (hd j hj).2⟩), hL, hC, h2, hLx, hd⟩, hE.mono (fun j _ hj => (hd j hj).1)⟩
theorem Yc.told {xb : Nat} {vx : Int} (hk : NumOk n me) (H : Yc n0 w T F cb rb xb n me v vx) (vn k : Int) :
    Calls Try.prog 15 #[.pointer (some ⟨xb, 0, none⟩), .int .u64 vn, .int .i64 k] w fun x w' => (∃ r e, x = .returned (.tuple #[.bool r, .int .i64 e])) ∧ Yc n0 w' T F cb rb xb n me v vx ∧ Ext (fun j => n0 ≤ j ∧ ¬ F j) w w' := by
  obtain ⟨S, R, vb, g, t, h, ps, tell, l, Sx, xv, xg, tx, hx, px, tellx, lx, hP, hL, hc, hS, hLx, hd⟩ := H.ex
  obtain ⟨r, e, t', tell', hL', h1, -⟩ := both_Told hk hLx vn k
  refine (h1 w Sx xb xv xg hc hS).mono ?_
  rintro x w' ⟨rfl, hto⟩
  exact ⟨⟨r, e, rfl⟩, Yc.step hP hL hd hto hL'⟩
theorem Yc.hand {xb : Nat} {vx pl pb pc : Int} (hk : NumOk n me) (H : Yc n0 w T F cb rb xb n me v vx) (vn k : Int) (hb0 : 0 ≤ pb) (hc0 : 0 ≤ pc) :
    Calls Try.prog 10 #[.pointer (some ⟨xb, 0, none⟩), .int .u64 vn, .int .i64 k, .agg #[.int .u64 pl, .int .u64 pb, .int .u64 pc, .slice none 0 0]] w fun x w' => (∃ r e, x = .returned (.tuple #[.bool r, .int .i64 e])) ∧ Yc n0 w' T F cb rb xb n me v vx ∧ Ext (fun j => n0 ≤ j ∧ ¬ F j) w w' := by
  obtain ⟨S, R, vb, g, t, h, ps, tell, l, Sx, xv, xg, tx, hx, px, tellx, lx, hP, hL, hc, hS, hLx, hd⟩ := H.ex
  obtain ⟨r, e, h', ps', l', hL', h1, -⟩ := both_Hand hk hLx vn k (pl := pl) (es := []) (fun _ h => by cases h) (by decide) hb0 hc0
  refine (h1 w Sx (fun _ => False) xb xv xg none 0 hc hS (nil_rd4 w) (fun _ h => h.elim) id).mono ?_
  rintro x w' ⟨rfl, hto⟩
  exact ⟨⟨r, e, rfl⟩, Yc.step hP hL hd hto hL'⟩
theorem Yc.start {xb : Nat} {vx vn : Int} (hk : NumOk n me) (H : Yc n0 w T F cb rb xb n me v vx) (h0 : 0 ≤ vn) (h1 : vn < 18446744073709551616) :
    Calls Try.prog 9 #[.pointer (some ⟨xb, 0, none⟩), .int .u64 vn] w fun x w' => (∃ e, x = .returned (.int .i64 e)) ∧ Gd n0 w' T F cb rb n me v ∧ Ext (fun j => n0 ≤ j ∧ ¬ F j) w w' := by
  obtain ⟨S, R, vb, g, t, h, ps, tell, l, Sx, xv, xg, tx, hx, px, tellx, lx, hP, hL, hc, hS, hLx, hd⟩ := H.ex
  obtain ⟨e, v', t', h', tell', l', hL', h3, -⟩ := both_Start (n := n) (me := me) hLx h0 h1
  refine (h3 w Sx xb xv xg hc hS).mono ?_
  rintro x w' ⟨rfl, hto⟩
  have := Yc.step hP hL hd hto hL'
  exact ⟨⟨e, rfl⟩, this.1.gd, this.2⟩
end
end Go.Proofs.Ytgmekodfkhihiaa
