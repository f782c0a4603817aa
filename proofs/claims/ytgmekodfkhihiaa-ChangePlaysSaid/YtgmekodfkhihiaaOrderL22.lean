/-
  ChangeOrder: its plain law, packs in memory, and Hand whether or not the pack may be.
-/
import Derived.Test.YtgmekodfkhihiaaNone22
namespace Go.Proofs.Ytgmekodfkhihiaa
open Go.RowKit Go.Maps
set_option linter.unusedSimpArgs false
set_option linter.unusedVariables false

def mayP (p : Pk) : Bool := mayB p.l p.b p.c p.es
def hasH (L : List Pk) (lo hi j : Nat) : Bool := decide (lo ≤ j) && (decide (j < hi) && mayP (L.getD j noPk))
def hAt (L : List Pk) (lo hi : Nat) : List Bool := (List.range 7).map (hasH L lo hi)
def pickP (b : Bool) (p : Pk) : Pk := if b = true then p else noPk
def pAt (L : List Pk) (lo hi : Nat) : List Pk := (List.range 7).map fun j => pickP (hasH L lo hi j) (L.getD j noPk)
def tAt (hi : Nat) : List Bool := (List.range 7).map fun j => decide (j < hi) && decide (j ≠ 3)
def setM {α : Type} (m : Bool) (l : List α) (k : Nat) (x : α) : List α := if m = true then l.set k x else l
def errM (m : Bool) : Int := if m = true then 0 else 1

theorem set_map {α : Type} (f g : Nat → α) (k : Nat) (ho : ∀ j, j ≠ k → f j = g j) : ((List.range 7).map f).set k (g k) = (List.range 7).map g := by
  refine List.ext_getElem (by simp) fun j h1 h2 => ?_
  rw [List.getElem_set]
  split
  · rename_i h
    subst h
    simp
  · rename_i h
    simp only [List.getElem_map, List.getElem_range]
    exact ho j (fun e => h e.symm)
theorem map_same {α : Type} (f g : Nat → α) (ho : ∀ j, f j = g j) : (List.range 7).map f = (List.range 7).map g := List.map_congr_left fun j _ => ho j
theorem hasH_up {L : List Pk} {lo hi : Nat} (hle : lo ≤ hi) : hasH L lo (hi + 1) hi = mayP (L.getD hi noPk) := by
  unfold hasH
  rw [decide_eq_true hle, decide_eq_true (Nat.lt_succ_self hi)]
  rfl
theorem hasH_dn {L : List Pk} {lo hi : Nat} (hle : lo < hi) : hasH L lo hi lo = mayP (L.getD lo noPk) := by
  unfold hasH
  rw [decide_eq_true (Nat.le_refl lo), decide_eq_true hle]
  rfl
theorem hasH_up_ne {L : List Pk} {lo hi j : Nat} (h : j ≠ hi) : hasH L lo hi j = hasH L lo (hi + 1) j := by
  unfold hasH
  rw [show decide (j < hi) = decide (j < hi + 1) from by rw [decide_eq_decide]; omega]
theorem hasH_dn_ne {L : List Pk} {lo hi j : Nat} (h : j ≠ lo) : hasH L (lo + 1) hi j = hasH L lo hi j := by
  unfold hasH
  rw [show decide (lo + 1 ≤ j) = decide (lo ≤ j) from by rw [decide_eq_decide]; omega]
theorem hasH_off {L : List Pk} {lo hi : Nat} : hasH L lo hi hi = false := by unfold hasH; simp
theorem hasH_off2 {L : List Pk} {lo hi : Nat} : hasH L (lo + 1) hi lo = false := by unfold hasH; simp; omega
theorem hAt_up {L : List Pk} {lo hi : Nat} (hle : lo ≤ hi) : setM (mayP (L.getD hi noPk)) (hAt L lo hi) hi true = hAt L lo (hi + 1) := by
  unfold setM hAt
  cases hm : mayP (L.getD hi noPk) with
  | true =>
    rw [if_pos rfl]
    have := set_map (hasH L lo hi) (hasH L lo (hi + 1)) hi (fun j hj => hasH_up_ne hj)
    rw [hasH_up hle, hm] at this
    exact this
  | false =>
    rw [if_neg (by simp)]
    refine map_same _ _ fun j => ?_
    by_cases h : j = hi
    · subst h
      rw [hasH_off, hasH_up hle, hm]
    · exact hasH_up_ne h
theorem hAt_dn {L : List Pk} {lo hi : Nat} (hle : lo < hi) : setM (mayP (L.getD lo noPk)) (hAt L (lo + 1) hi) lo true = hAt L lo hi := by
  unfold setM hAt
  cases hm : mayP (L.getD lo noPk) with
  | true =>
    rw [if_pos rfl]
    have := set_map (hasH L (lo + 1) hi) (hasH L lo hi) lo (fun j hj => hasH_dn_ne hj)
    rw [hasH_dn hle, hm] at this
    exact this
  | false =>
    rw [if_neg (by simp)]
    refine map_same _ _ fun j => ?_
    by_cases h : j = lo
    · subst h
      rw [hasH_off2, hasH_dn hle, hm]
    · exact hasH_dn_ne h
theorem pAt_up {L : List Pk} {lo hi : Nat} (hle : lo ≤ hi) : setM (mayP (L.getD hi noPk)) (pAt L lo hi) hi (L.getD hi noPk) = pAt L lo (hi + 1) := by
  unfold setM pAt
  cases hm : mayP (L.getD hi noPk) with
  | true =>
    rw [if_pos rfl]
    have := set_map (fun j => pickP (hasH L lo hi j) (L.getD j noPk)) (fun j => pickP (hasH L lo (hi + 1) j) (L.getD j noPk)) hi (fun j hj => by simp only [hasH_up_ne hj])
    simp only [hasH_up hle, hm] at this
    rw [show pickP true (L.getD hi noPk) = L.getD hi noPk from rfl] at this
    exact this
  | false =>
    rw [if_neg (by simp)]
    refine map_same _ _ fun j => ?_
    by_cases h : j = hi
    · subst h
      rw [hasH_off, hasH_up hle, hm]
    · rw [hasH_up_ne h]
theorem pAt_dn {L : List Pk} {lo hi : Nat} (hle : lo < hi) : setM (mayP (L.getD lo noPk)) (pAt L (lo + 1) hi) lo (L.getD lo noPk) = pAt L lo hi := by
  unfold setM pAt
  cases hm : mayP (L.getD lo noPk) with
  | true =>
    rw [if_pos rfl]
    have := set_map (fun j => pickP (hasH L (lo + 1) hi j) (L.getD j noPk)) (fun j => pickP (hasH L lo hi j) (L.getD j noPk)) lo (fun j hj => by simp only [hasH_dn_ne hj])
    simp only [hasH_dn hle, hm] at this
    rw [show pickP true (L.getD lo noPk) = L.getD lo noPk from rfl] at this
    exact this
  | false =>
    rw [if_neg (by simp)]
    refine map_same _ _ fun j => ?_
    by_cases h : j = lo
    · subst h
      rw [hasH_off2, hasH_dn hle, hm]
    · rw [hasH_dn_ne h]
theorem setM_twice {α : Type} (m : Bool) (l : List α) (k : Nat) (x : α) : setM m (setM m l k x) k x = setM m l k x := by
  unfold setM
  cases m <;> simp
theorem hAt_none {L : List Pk} (k : Nat) : hAt L k k = no7 := by
  have : hAt L k k = (List.range 7).map fun _ => false := map_same _ _ fun j => by unfold hasH; simp; omega
  rw [this]
  rfl
theorem pAt_none {L : List Pk} (k : Nat) : pAt L k k = List.replicate 7 noPk := by
  have : pAt L k k = (List.range 7).map fun _ => noPk := map_same _ _ fun j => by
    have : hasH L k k j = false := by unfold hasH; simp; omega
    rw [this]
    rfl
  rw [this]
  rfl
theorem tAt_0 : tAt 0 = no7 := by decide +kernel
theorem tAt_step {i : Nat} (h : i < 7) (h3 : i ≠ 3) : (tAt i).set i true = tAt (i + 1) := by
  match i, h, h3 with
  | 0, _, _ => decide +kernel
  | 1, _, _ => decide +kernel
  | 2, _, _ => decide +kernel
  | 4, _, _ => decide +kernel
  | 5, _, _ => decide +kernel
  | 6, _, _ => decide +kernel
theorem tAt_again {i : Nat} (h : i < 7) (h3 : i ≠ 3) : (tAt (i + 1)).set i true = tAt (i + 1) := by
  match i, h, h3 with
  | 0, _, _ => decide +kernel
  | 1, _, _ => decide +kernel
  | 2, _, _ => decide +kernel
  | 4, _, _ => decide +kernel
  | 5, _, _ => decide +kernel
  | 6, _, _ => decide +kernel
theorem tAt_3 : tAt 3 = tAt 4 := by decide +kernel
/-- Once there were so many. -/
def once (many : Nat) (h : List Bool) : Int := if many ≤ (whoL h).length then 1 else 0
def bit (b : Bool) : Int := if b = true then 1 else 0
theorem sevenB (h : List Bool) (hl : h.length = 7) : ∃ a b c d e f g, h = [a, b, c, d, e, f, g] := by
  match h, hl with
  | [a, b, c, d, e, f, g], _ => exact ⟨a, b, c, d, e, f, g, rfl⟩
theorem once4_all : ∀ (a b c d e f g : Bool) (k : Fin 7), once 4 ([a, b, c, d, e, f, g].set k true) = once 4 [a, b, c, d, e, f, g] + bit (justB [a, b, c, d, e, f, g] ([a, b, c, d, e, f, g].set k true) 4) := by decide +kernel
theorem once3_all : ∀ (a b c d e f g : Bool) (k : Fin 7), once 3 ([a, b, c, d, e, f, g].set k true) = once 3 [a, b, c, d, e, f, g] + bit (justB [a, b, c, d, e, f, g] ([a, b, c, d, e, f, g].set k true) 3) := by decide +kernel
theorem justB_self (h : List Bool) (m : Int) : justB h h m = false := by unfold justB; simp; omega
theorem once4_step {h h' : List Bool} {k : Nat} {m : Bool} (hl : h.length = 7) (hk : k < 7) (hs : setM m h k true = h') : once 4 h' = once 4 h + bit (justB h h' (7 / 2 + 1)) := by
  subst hs
  unfold setM
  cases m with
  | true =>
    rw [if_pos rfl]
    obtain ⟨a, b, c, d, e, f, g, rfl⟩ := sevenB h hl
    exact once4_all a b c d e f g ⟨k, hk⟩
  | false =>
    rw [if_neg (by simp), justB_self]
    simp [bit]
theorem once3_step {h h' : List Bool} {k : Nat} (hl : h.length = 7) (hk : k < 7) (hs : h.set k true = h') : once 3 h' = once 3 h + bit (justB h h' (7 / 2)) := by
  subst hs
  obtain ⟨a, b, c, d, e, f, g, rfl⟩ := sevenB h hl
  exact once3_all a b c d e f g ⟨k, hk⟩
theorem hAt_len (L : List Pk) (lo hi : Nat) : (hAt L lo hi).length = 7 := by simp [hAt]
theorem tAt_len (hi : Nat) : (tAt hi).length = 7 := by simp [tAt]
theorem pAt_ok {L : List Pk} (hL : ∀ p ∈ L, 0 ≤ p.b ∧ 0 ≤ p.c) (lo hi : Nat) : ∀ p ∈ pAt L lo hi, PkOk p := by
  intro p hp
  unfold pAt at hp
  obtain ⟨j, -, rfl⟩ := List.mem_map.1 hp
  unfold pickP
  split
  · rename_i h
    unfold hasH at h
    simp only [Bool.and_eq_true] at h
    rcases Nat.lt_or_ge j L.length with hj | hj
    · have e : L.getD j noPk = L[j] := by simp [List.getD, List.getElem?_eq_getElem hj]
      rw [e] at h ⊢
      have := hL _ (List.getElem_mem hj)
      exact ⟨h.2.2, this.1, this.2⟩
    · rw [show L.getD j noPk = noPk from by simp [List.getD, List.getElem?_eq_none hj]]
      exact noPk_ok
  · exact noPk_ok
theorem told3 {n : Nat} (hn : n ≤ 7) : ((once 3 (tAt n) == 1) == decide (3 ≤ (n : Int))) = true := by
  have : n = 0 ∨ n = 1 ∨ n = 2 ∨ n = 3 ∨ n = 4 ∨ n = 5 ∨ n = 6 ∨ n = 7 := by omega
  rcases this with rfl | rfl | rfl | rfl | rfl | rfl | rfl | rfl <;> decide +kernel
theorem once_01 (m : Nat) (h : List Bool) : once m h = 0 ∨ once m h = 1 := by unfold once; split <;> simp

theorem looks_ok {ps : List Pk} (hps : ∀ p ∈ ps, PkOk p) : ∀ (l : List Nat) (s : Int × Pk), PkOk s.2 → PkOk (looks ps l s).2
  | [], s, h => h
  | a :: l, s, h => by
    refine looks_ok hps l (look (ps.getD a noPk) s) ?_
    rcases (look_mem : (look (ps.getD a noPk) s).2 = ps.getD a noPk ∨ (look (ps.getD a noPk) s).2 = s.2) with e | e
    · rw [e]; exact pk_at hps a
    · rw [e]; exact h
theorem bestOf_len {ps : List Pk} (hps : ∀ p ∈ ps, PkOk p) (l : List Nat) : (bestOf ps l).es.length ≤ 64 := (looks_ok hps l _ (pk_at hps _)).parts.1
theorem nil_rd4 (w : World) : EntsRd w (fun _ => False) (.slice none 0 0) [] := ⟨[], Rd.nil _ _ _, Els.nil _ _⟩
/-- Packs in memory. -/
def PacksRd (w : World) (S : Nat → Prop) (v : Value) (L : List Pk) : Prop := ∃ cs, Rd w S 4 v L.length cs ∧ PksRd w S cs L
def PksOk (L : List Pk) : Prop := ∀ p ∈ L, Fits p.es ∧ p.es.length ≤ 1152921504606846976 ∧ 0 ≤ p.b ∧ 0 ≤ p.c

section
variable {w : World} {S : Nat → Prop} {cb vb g : Nat} {n me v : Int} {t h : List Bool} {ps : List Pk}
theorem More.weak {w' : World} {j : Nat} (hz : w.heap.size ≤ w'.heap.size) (hj : S j) (hw : j < w.heap.size) : More S w w' j := .inl ⟨hj, hw⟩
/-- Hand, whether or not the pack may be. -/
theorem ch_HandAny {T : Nat → Prop} {l b c : Int} {s : Value} {es : List Ent} {h' : List Bool} {ps' : List Pk} {k : Nat} {m : Bool} (H : ChAt w S cb vb g n me v t h ps) (hk : NumOk n me) (hkn : (k : Int) < n) (hs : EntsRd w T s es) (hf : Fits es) (hT : ∀ j, T j → j < w.heap.size) (hTg : ¬ T g) (hS : ∀ j, S j → j < w.heap.size) (hm : mayB l b c es = m) (hb0 : 0 ≤ b) (hn64 : es.length ≤ 1152921504606846976) (hh : setM m h k true = h') (hp : setM m ps k ⟨l, b, c, es⟩ = ps') :
    Calls Try.prog 10 #[.pointer (some ⟨cb, 0, none⟩), .int .u64 v, .int .i64 (k : Int), .agg #[.int .u64 l, .int .u64 b, .int .u64 c, s]] w fun x w' => x = .returned (.tuple #[.bool (justB h h' (n / 2 + 1)), .int .i64 (errM m)]) ∧
      ChAt w' (More S w w') cb vb g n me v t h' ps' ∧ Ext (fun j => j = cb ∨ j = g) w w' := by
  cases m with
  | true =>
    have := ch_Hand H hk hkn hs hf hT hTg hS hm hb0 hn64 (show h.set k true = h' from hh)
    refine this.mono fun x w' ⟨h1, h2, h3⟩ => ⟨h1, ?_, h3⟩
    rw [← hp]
    exact h2
  | false =>
    refine (ch_Hand_may H (by omega) hkn hs hm hb0 hn64).mono fun x w' ⟨h1, hb⟩ => ⟨?_, ?_, Ext.of_below _ hb⟩
    · rw [show h' = h from hh.symm, justB_self]
      exact h1
    · rw [show h' = h from hh.symm, show ps' = ps from hp.symm]
      have hlt := H.lt
      refine (H.below hb).weak (fun j hj _ => .inl ⟨hj, hS j hj⟩) ?_
      have hn := H.nS
      refine ⟨?_, ?_, ?_⟩
      · rintro (⟨h, -⟩ | ⟨h, -⟩)
        · exact hn.1 h
        · omega
      · rintro (⟨h, -⟩ | ⟨h, -⟩)
        · exact hn.2.1 h
        · omega
      · rintro (⟨h, -⟩ | ⟨h, -⟩)
        · exact hn.2.2 h
        · omega
end
end Go.Proofs.Ytgmekodfkhihiaa
