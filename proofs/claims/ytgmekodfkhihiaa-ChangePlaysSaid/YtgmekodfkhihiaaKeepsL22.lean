/-
  ChangeKeeps: its plain law: the best of the packs of more than half has what more than half have.
-/
import Derived.Test.YtgmekodfkhihiaaOrderL22
namespace Go.Proofs.Ytgmekodfkhihiaa
open Go.RowKit Go.Maps
set_option linter.unusedSimpArgs false
set_option linter.unusedVariables false

def zent : Ent := ⟨0, 0, 0, []⟩
def markE : Ent := ⟨0, 7, 77, []⟩
def moreE (m : Nat) : List Ent := (List.range m).map fun (r : Nat) => ⟨0, 0, (r : Int), []⟩
def esOf (m : Nat) (b : Bool) : List Ent := if b = true then zent :: zent :: markE :: moreE m else List.replicate m zent
def pkOf (l : Int) (m : Nat) (b : Bool) : Pk := ⟨l, 8, 8, esOf m b⟩
theorem esOf_t (m : Nat) : esOf m true = zent :: zent :: markE :: moreE m := rfl
theorem esOf_f (m : Nat) : esOf m false = List.replicate m zent := rfl
theorem esOf_len_t (m : Nat) : (esOf m true).length = m + 3 := by simp [esOf, moreE]
theorem esOf_len_f (m : Nat) : (esOf m false).length = m := by simp [esOf]
theorem esOf_cmd {m : Nat} {b : Bool} : ∀ e ∈ esOf m b, e.cmd = [] := by
  intro e he
  cases b with
  | true =>
    rw [esOf_t] at he
    simp only [List.mem_cons, moreE, List.mem_map] at he
    rcases he with rfl | rfl | rfl | ⟨r, -, rfl⟩ <;> rfl
  | false =>
    rw [esOf_f] at he
    rw [(List.mem_replicate.1 he).2]
    rfl
theorem esOf_fits {m : Nat} {b : Bool} : Fits (esOf m b) := fun e he => by rw [esOf_cmd e he]; decide
theorem esOf_long {m : Nat} {b : Bool} : longB (esOf m b) = false := by
  unfold longB
  rw [List.any_eq_false]
  intro e he
  unfold longE
  rw [esOf_cmd e he]
  decide
theorem pkOf_may {l : Int} {m : Nat} {b : Bool} (hl : l ≤ 3) (hm : m ≤ 2) : mayB l 8 8 (esOf m b) = true := by
  unfold mayB
  have h1 : (esOf m b).length ≤ 5 := by cases b with
    | true => rw [esOf_len_t]; omega
    | false => rw [esOf_len_f]; omega
  simp [esOf_long]
  omega
theorem pkOf_ok {l : Int} {m : Nat} {b : Bool} (hl : l ≤ 3) (hm : m ≤ 2) : PkOk (pkOf l m b) := ⟨pkOf_may hl hm, (by decide : (0 : Int) ≤ 8), (by decide : (0 : Int) ≤ 8)⟩
theorem pkOf_op_t (l : Int) (m : Nat) : (pkOf l m true).op = 11 + m := by
  show (8 : Int) + ((esOf m true).length : Nat) = _
  rw [esOf_len_t]; omega
theorem pkOf_op_f (l : Int) (m : Nat) : (pkOf l m false).op = 8 + m := by
  show (8 : Int) + ((esOf m false).length : Nat) = _
  rw [esOf_len_f]

/- The best of a row. -/
theorem better_iff (p q : Pk) : p.better q = true ↔ (q.l < p.l ∨ (p.l = q.l ∧ q.op < p.op)) := by unfold Pk.better betterB; simp
theorem better_not (p q : Pk) : p.better q = false ↔ ¬ (q.l < p.l ∨ (p.l = q.l ∧ q.op < p.op)) := by rw [← better_iff]; simp
theorem looks_max (ps : List Pk) : ∀ (l : List Nat) (s : Int × Pk), s.2.better (looks ps l s).2 = false ∧ ∀ i ∈ l, (ps.getD i noPk).better (looks ps l s).2 = false
  | [], s => ⟨by rw [better_not]; show ¬ (s.2.l < s.2.l ∨ (s.2.l = s.2.l ∧ s.2.op < s.2.op)); omega, fun i h => by cases h⟩
  | a :: l, s => by
    obtain ⟨h1, h2⟩ := looks_max ps l (look (ps.getD a noPk) s)
    rw [show looks ps (a :: l) s = looks ps l (look (ps.getD a noPk) s) from rfl]
    generalize looks ps l (look (ps.getD a noPk) s) = r at *
    obtain ⟨p, hp⟩ : ∃ p, ps.getD a noPk = p := ⟨_, rfl⟩
    rw [hp] at h1
    have hl : (look p s).2 = if p.better s.2 = true then p else s.2 := rfl
    rw [hl] at h1
    have key : s.2.better r.2 = false ∧ p.better r.2 = false := by
      cases h : p.better s.2 with
      | true =>
        rw [h, if_pos rfl, better_not] at h1
        rw [better_iff] at h
        refine ⟨(better_not _ _).2 ?_, (better_not _ _).2 h1⟩
        omega
      | false =>
        rw [h, if_neg (by simp), better_not] at h1
        rw [better_not] at h
        refine ⟨(better_not _ _).2 h1, (better_not _ _).2 ?_⟩
        omega
    refine ⟨key.1, fun i hi => ?_⟩
    rcases List.mem_cons.1 hi with rfl | hi
    · rw [hp]; exact key.2
    · exact h2 i hi
theorem looks_from (ps : List Pk) : ∀ (l : List Nat) (s : Int × Pk), (looks ps l s).2 = s.2 ∨ ∃ i ∈ l, (looks ps l s).2 = ps.getD i noPk
  | [], s => .inl rfl
  | a :: l, s => by
    rcases looks_from ps l (look (ps.getD a noPk) s) with h | ⟨i, hi, h⟩
    · rcases (look_mem : (look (ps.getD a noPk) s).2 = ps.getD a noPk ∨ _) with e | e
      · exact .inr ⟨a, List.mem_cons_self, h.trans e⟩
      · exact .inl (h.trans e)
    · exact .inr ⟨i, List.mem_cons_of_mem _ hi, h⟩
theorem bestOf_spec (ps : List Pk) {l : List Nat} (hl : l ≠ []) : ∃ i ∈ l, (bestOf ps l).es = (ps.getD i noPk).es ∧ ∀ j ∈ l, (ps.getD j noPk).better (ps.getD i noPk) = false := by
  obtain ⟨a, l, rfl⟩ := List.exists_cons_of_ne_nil hl
  have h1 := looks_max ps (a :: l) (0, ps.getD a noPk)
  have h2 := looks_from ps (a :: l) (0, ps.getD a noPk)
  have hb : (bestOf ps (a :: l)).es = (looks ps (a :: l) (0, ps.getD a noPk)).2.es := rfl
  rcases h2 with h | ⟨i, hi, h⟩
  · refine ⟨a, List.mem_cons_self, by rw [hb, h], fun j hj => ?_⟩
    have := h1.2 j hj
    rw [h] at this
    exact this
  · refine ⟨i, hi, by rw [hb, h], fun j hj => ?_⟩
    have := h1.2 j hj
    rw [h] at this
    exact this

/- What the first loop counts. -/
section
variable (hb wb : Nat → Bool) (lv : Nat → Int) (mv : Nat → Nat)
def upI (b : Bool) (x : Int) : Int := if b = true then x + 1 else x
def leI (b : Bool) (x l : Int) : Int := if b = true then (if l < x then l else x) else x
def geI (b : Bool) (x l : Int) : Int := if b = true then x else (if x < l then l else x)
def cntI : Nat → Int
  | 0 => 0
  | i + 1 => upI (hb i) (cntI i)
def leastI : Nat → Int
  | 0 => 9
  | i + 1 => leI (hb i) (leastI i) (lv i)
def greatI : Nat → Int
  | 0 => 0
  | i + 1 => geI (hb i) (greatI i) (lv i)
def nodeP (j : Nat) : Pk := pkOf (lv j) (mv j) (hb j)
def packsTo (i : Nat) : List Pk := (List.range 7).map fun j => pickP (decide (j < i)) (nodeP hb lv mv j)
variable {hb wb lv mv}
theorem cntI_le : ∀ i, 0 ≤ cntI hb i ∧ cntI hb i ≤ i
  | 0 => ⟨(by decide : (0 : Int) ≤ 0), (by decide : (0 : Int) ≤ 0)⟩
  | i + 1 => by
    have := cntI_le i
    show 0 ≤ upI (hb i) (cntI hb i) ∧ upI (hb i) (cntI hb i) ≤ (i + 1 : Nat)
    unfold upI
    split <;> omega
theorem cntI_lt {i : Nat} (hi : hb i = false) : ∀ n, i < n → cntI hb n < n
  | n + 1, h => by
    have := cntI_le (hb := hb) n
    show upI (hb n) (cntI hb n) < (n + 1 : Nat)
    unfold upI
    rcases Nat.lt_or_ge i n with h' | h'
    · have := cntI_lt hi n h'
      split <;> omega
    · obtain rfl : i = n := by omega
      rw [hi, if_neg (by simp)]
      omega
theorem cntI_count : ∀ n, cntI hb n = ((List.range n).countP hb : Nat)
  | 0 => rfl
  | n + 1 => by
    show upI (hb n) (cntI hb n) = _
    rw [List.range_succ, List.countP_append, cntI_count n]
    unfold upI
    cases h : hb n <;> simp [h]
theorem leastI_le {j : Nat} (hj : hb j = true) : ∀ n, j < n → leastI hb lv n ≤ lv j
  | n + 1, h => by
    show leI (hb n) (leastI hb lv n) (lv n) ≤ lv j
    unfold leI
    rcases Nat.lt_or_ge j n with h' | h'
    · have := leastI_le hj n h'
      split
      · split <;> omega
      · exact this
    · obtain rfl : j = n := by omega
      rw [hj, if_pos rfl]
      split <;> omega
theorem greatI_ge {j : Nat} (hj : hb j = false) : ∀ n, j < n → lv j ≤ greatI hb lv n
  | n + 1, h => by
    show lv j ≤ geI (hb n) (greatI hb lv n) (lv n)
    unfold geI
    rcases Nat.lt_or_ge j n with h' | h'
    · have := greatI_ge hj n h'
      split
      · exact this
      · split <;> omega
    · obtain rfl : j = n := by omega
      rw [hj, if_neg (by simp)]
      split <;> omega
theorem packsTo_step {i : Nat} (hi : i < 7) {p : Pk} (hp : nodeP hb lv mv i = p) : (packsTo hb lv mv i).set i p = packsTo hb lv mv (i + 1) := by
  subst hp
  have := set_map (fun j => pickP (decide (j < i)) (nodeP hb lv mv j)) (fun j => pickP (decide (j < i + 1)) (nodeP hb lv mv j)) i (fun j hj => by
    simp only [show decide (j < i) = decide (j < i + 1) from by rw [decide_eq_decide]; omega])
  simp only [show decide (i < i + 1) = true from by simp] at this
  exact this
theorem packsTo_0 : packsTo hb lv mv 0 = List.replicate 7 noPk := by
  have : packsTo hb lv mv 0 = (List.range 7).map fun _ => noPk := map_same _ _ fun j => by simp [pickP]
  rw [this]
  rfl
theorem packsTo_len (i : Nat) : (packsTo hb lv mv i).length = 7 := by simp [packsTo]
theorem packsTo_at {i j : Nat} (hj : j < i) (hj7 : j < 7) : (packsTo hb lv mv i).getD j noPk = nodeP hb lv mv j := by
  simp [packsTo, List.getD, hj7, hj, pickP]

/- What the second loop hands in. -/
def kAt (tu : Bool) (n i : Nat) : Nat := if tu = true then n - 1 - i else i
variable (wb) in
def hdR (tu : Bool) (n : Nat) : Nat → List Bool
  | 0 => no7
  | i + 1 => setM (wb (kAt tu n i)) (hdR tu n i) (kAt tu n i) true
variable (hb wb lv mv) in
def pdR (tu : Bool) (n : Nat) : Nat → List Pk
  | 0 => List.replicate 7 noPk
  | i + 1 => setM (wb (kAt tu n i)) (pdR tu n i) (kAt tu n i) (nodeP hb lv mv (kAt tu n i))
variable {tu : Bool} {n : Nat}
theorem kAt_lt {i : Nat} (h : i < n) : kAt tu n i < n := by unfold kAt; split <;> omega
theorem kAt_inj {i j : Nat} (hi : i < n) (hj : j < n) (h : kAt tu n i = kAt tu n j) : i = j := by unfold kAt at h; split at h <;> omega
theorem kAt_all {j : Nat} (hj : j < n) : ∃ r, r < n ∧ kAt tu n r = j := by
  unfold kAt
  cases tu with
  | true => exact ⟨n - 1 - j, by omega, by simp; omega⟩
  | false => exact ⟨j, hj, by simp⟩
theorem setM_len {α : Type} (m : Bool) (l : List α) (k : Nat) (x : α) : (setM m l k x).length = l.length := by unfold setM; split <;> simp
theorem hdR_len : ∀ i, (hdR wb tu n i).length = 7
  | 0 => rfl
  | i + 1 => by rw [hdR, setM_len]; exact hdR_len i
theorem pdR_len : ∀ i, (pdR hb wb lv mv tu n i).length = 7
  | 0 => rfl
  | i + 1 => by rw [pdR, setM_len]; exact pdR_len i
theorem getD_setM {α : Type} (m : Bool) (l : List α) (k j : Nat) (x d : α) (hk : k < l.length) : (setM m l k x).getD j d = if m = true ∧ k = j then x else l.getD j d := by
  unfold setM
  cases m with
  | true =>
    simp only [if_true, true_and]
    by_cases h : k = j
    · subst h
      simp [List.getD, hk]
    · simp [List.getD, h]
  | false => simp
theorem hdR_at (hn : n ≤ 7) : ∀ i, i ≤ n → ∀ j, ((hdR wb tu n i).getD j false = true ↔ ∃ r, r < i ∧ kAt tu n r = j ∧ wb j = true)
  | 0, _, j => by
    constructor
    · intro h
      exfalso
      have : (no7.getD j false) = false := by
        rcases Nat.lt_or_ge j 7 with h7 | h7
        · have : j = 0 ∨ j = 1 ∨ j = 2 ∨ j = 3 ∨ j = 4 ∨ j = 5 ∨ j = 6 := by omega
          rcases this with rfl | rfl | rfl | rfl | rfl | rfl | rfl <;> rfl
        · rw [List.getD, List.getElem?_eq_none (by exact h7)]; rfl
      rw [show hdR wb tu n 0 = no7 from rfl, this] at h
      cases h
    · rintro ⟨r, hr, -⟩
      omega
  | i + 1, h, j => by
    have hk := kAt_lt (tu := tu) (show i < n by omega)
    rw [hdR, getD_setM _ _ _ _ _ _ (by rw [hdR_len]; omega)]
    have ih := hdR_at hn i (by omega) j
    split
    · rename_i hc
      refine ⟨fun _ => ⟨i, by omega, hc.2, by rw [← hc.2]; exact hc.1⟩, fun _ => rfl⟩
    · rename_i hc
      rw [ih]
      constructor
      · rintro ⟨r, h1, h2, h3⟩
        exact ⟨r, by omega, h2, h3⟩
      · rintro ⟨r, h1, h2, h3⟩
        refine ⟨r, ?_, h2, h3⟩
        rcases Nat.lt_or_ge r i with h' | h'
        · exact h'
        · obtain rfl : r = i := by omega
          exact absurd ⟨by rw [h2]; exact h3, h2⟩ hc
theorem hdR_off (hn : n ≤ 7) {i : Nat} (hi : i < n) : (hdR wb tu n i).getD (kAt tu n i) false = false := by
  cases h : (hdR wb tu n i).getD (kAt tu n i) false with
  | false => rfl
  | true =>
    obtain ⟨r, h1, h2, -⟩ := (hdR_at hn i (by omega) _).1 h
    have := kAt_inj (show r < n by omega) hi h2
    omega
theorem pdR_at (hn : n ≤ 7) : ∀ i, i ≤ n → ∀ j, (hdR wb tu n i).getD j false = true → (pdR hb wb lv mv tu n i).getD j noPk = nodeP hb lv mv j
  | 0, h, j, hj => by
    obtain ⟨r, hr, -⟩ := (hdR_at hn 0 h j).1 hj
    omega
  | i + 1, h, j, hj => by
    have hk := kAt_lt (tu := tu) (show i < n by omega)
    rw [hdR, getD_setM _ _ _ _ _ _ (by rw [hdR_len]; omega)] at hj
    rw [pdR, getD_setM _ _ _ _ _ _ (by rw [pdR_len]; omega)]
    split
    · rename_i hc
      rw [hc.2]
    · rename_i hc
      rw [if_neg hc] at hj
      exact pdR_at hn i (by omega) j hj
theorem told_all : ∀ (a b c d e f g : Bool) (k : Fin 7), [a, b, c, d, e, f, g].getD k false = false → (whoL ([a, b, c, d, e, f, g].set k true)).length = (whoL [a, b, c, d, e, f, g]).length + 1 := by decide +kernel
theorem told_step (hn : n ≤ 7) {i : Nat} (hi : i < n) (hw : wb (kAt tu n i) = true) : (whoL (hdR wb tu n (i + 1))).length = (whoL (hdR wb tu n i)).length + 1 := by
  have hk := kAt_lt (tu := tu) hi
  have ho := hdR_off (wb := wb) (tu := tu) hn hi
  rw [hdR, setM, if_pos hw]
  obtain ⟨a, b, c, d, e, f, g, he⟩ := sevenB _ (hdR_len (wb := wb) (tu := tu) (n := n) i)
  rw [he] at ho ⊢
  exact told_all a b c d e f g ⟨_, show kAt tu n i < 7 by omega⟩ ho
theorem told_stay {i : Nat} (hw : wb (kAt tu n i) = false) : hdR wb tu n (i + 1) = hdR wb tu n i ∧ pdR hb wb lv mv tu n (i + 1) = pdR hb wb lv mv tu n i := by
  rw [hdR, pdR, setM, setM, hw, if_neg (by simp), if_neg (by simp)]
  exact ⟨rfl, rfl⟩
theorem pdR_ok (hl : ∀ j, lv j ≤ 3) (hm : ∀ j, mv j ≤ 2) : ∀ i, ∀ p ∈ pdR hb wb lv mv tu n i, PkOk p
  | 0, p, hp => by
    rw [List.eq_of_mem_replicate (show p ∈ List.replicate 7 noPk from hp)]
    exact noPk_ok
  | i + 1, p, hp => by
    rw [pdR, setM] at hp
    split at hp
    · rcases List.mem_or_eq_of_mem_set hp with h | h
      · exact pdR_ok hl hm i p h
      · rw [h]
        exact pkOf_ok (hl _) (hm _)
    · exact pdR_ok hl hm i p hp

/- More than half and more than half have one in common. -/
theorem countP_two {α : Type} (p q : α → Bool) : ∀ l : List α, l.countP p + l.countP q ≤ l.length + l.countP (fun x => p x && q x)
  | [] => by simp
  | a :: l => by
    have := countP_two p q l
    simp only [List.countP_cons, List.length_cons]
    cases hp : p a <;> cases hq : q a <;> simp <;> omega
theorem countP_upto (p : Nat → Bool) (n : Nat) : ∀ d, (List.range (n + d)).countP (fun j => decide (j < n) && p j) = (List.range n).countP p
  | 0 => by
    refine List.countP_congr fun x hx => ?_
    have : x < n := List.mem_range.1 hx
    simp [this]
  | d + 1 => by
    rw [← Nat.add_assoc, List.range_succ, List.countP_append, countP_upto p n d]
    have : ¬ n + d < n := by omega
    simp [this]
theorem hdR_count (hn : n ≤ 7) : (whoL (hdR wb tu n n)).length = (List.range n).countP wb := by
  unfold whoL
  rw [hdR_len, ← List.countP_eq_length_filter]
  have h := countP_upto wb n (7 - n)
  rw [Nat.add_sub_cancel' hn] at h
  rw [← h]
  refine List.countP_congr fun x hx => ?_
  rw [hdR_at hn n (Nat.le_refl _) x]
  simp only [Bool.and_eq_true, decide_eq_true_eq]
  constructor
  · rintro ⟨r, h1, h2, h3⟩
    exact ⟨by rw [← h2]; exact kAt_lt h1, h3⟩
  · rintro ⟨h1, h2⟩
    obtain ⟨r, h3, h4⟩ := kAt_all (tu := tu) h1
    exact ⟨r, h3, h4, h2⟩
theorem hdR_mem (hn : n ≤ 7) {j : Nat} (h : j ∈ whoL (hdR wb tu n n)) : j < n ∧ wb j = true ∧ (pdR hb wb lv mv tu n n).getD j noPk = nodeP hb lv mv j := by
  unfold whoL at h
  obtain ⟨-, h⟩ := List.mem_filter.1 h
  obtain ⟨r, h1, h2, h3⟩ := (hdR_at hn n (Nat.le_refl _) j).1 h
  exact ⟨by rw [← h2]; exact kAt_lt h1, h3, pdR_at hn n (Nat.le_refl _) j h⟩
theorem hdR_in (hn : n ≤ 7) {j : Nat} (h : j < n) (hw : wb j = true) : j ∈ whoL (hdR wb tu n n) := by
  unfold whoL
  rw [hdR_len]
  refine List.mem_filter.2 ⟨List.mem_range.2 (by omega), ?_⟩
  obtain ⟨r, h1, h2⟩ := kAt_all (tu := tu) h
  exact (hdR_at hn n (Nat.le_refl _) j).2 ⟨r, h1, h2, hw⟩
/-- THE LAW. -/
theorem keeps_law (hn : n ≤ 7) (hm : ∀ j, mv j ≤ 2) (h1 : n / 2 + 1 ≤ (whoL (hdR wb tu n n)).length) (h2 : ((n / 2 + 1 : Nat) : Int) ≤ cntI hb n) (h3 : ¬ (cntI hb n < n ∧ leastI hb lv n < greatI hb lv n)) :
    ∃ rest, (bestOf (pdR hb wb lv mv tu n n) (whoL (hdR wb tu n n))).es = zent :: zent :: markE :: rest := by
  obtain ⟨i, hi, he, hmax⟩ := bestOf_spec (pdR hb wb lv mv tu n n) (l := whoL (hdR wb tu n n)) (by
    intro h
    rw [h] at h1
    simp at h1)
  obtain ⟨hin, hiw, hip⟩ := hdR_mem (hb := hb) (lv := lv) (mv := mv) hn hi
  rw [he, hip]
  cases hbi : hb i with
  | true => exact ⟨moreE (mv i), by unfold nodeP; rw [hbi]; rfl⟩
  | false =>
    exfalso
    have hc := countP_two wb hb (List.range n)
    rw [← hdR_count (tu := tu) hn, List.length_range] at hc
    rw [cntI_count] at h2
    have h2' : n / 2 + 1 ≤ (List.range n).countP hb := by exact_mod_cast h2
    have hpos : 0 < (List.range n).countP (fun x => wb x && hb x) := by omega
    obtain ⟨j, hj, hjb⟩ := List.countP_pos_iff.1 hpos
    rw [List.mem_range] at hj
    simp only [Bool.and_eq_true] at hjb
    have hjin := hdR_in (tu := tu) hn hj hjb.1
    obtain ⟨-, -, hjp⟩ := hdR_mem (hb := hb) (lv := lv) (mv := mv) hn hjin
    have hm1 := hmax j hjin
    rw [hip, hjp, better_not] at hm1
    have o1 : (nodeP hb lv mv j).op = 11 + (mv j : Int) := by unfold nodeP; rw [hjb.2]; exact pkOf_op_t _ _
    have o2 : (nodeP hb lv mv i).op = 8 + (mv i : Int) := by unfold nodeP; rw [hbi]; exact pkOf_op_f _ _
    have l1 : (nodeP hb lv mv j).l = lv j := rfl
    have l2 : (nodeP hb lv mv i).l = lv i := rfl
    rw [o1, o2, l1, l2] at hm1
    have := hm i
    have a1 := cntI_lt hbi n hin
    have a2 := leastI_le (lv := lv) hjb.2 n hj
    have a3 := greatI_ge (lv := lv) hbi n hin
    exact h3 ⟨a1, by omega⟩
end
end Go.Proofs.Ytgmekodfkhihiaa
