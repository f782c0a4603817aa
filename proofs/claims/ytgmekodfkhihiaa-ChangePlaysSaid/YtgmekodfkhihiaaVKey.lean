/-
  Votes: the keys and the elements of their map; what the map reads as. Plain theorems over memory.
-/
import Derived.Test.YtgmekodfkhihiaaLog22
import Derived.Test.YtgmekodfkhihiaaOrdB
import Derived.DeepKeys4
import Derived.Maps.OwnSet
import Derived.Maps.RangeWalk
import Derived.Maps.Views
import Derived.Lib.SlMapFilter
namespace Go.Proofs.Ytgmekodfkhihiaa
open Go.RowKit Go.Maps
set_option linter.unusedSimpArgs false
set_option linter.unusedVariables false

theorem laid22 : laidOutB Try.prog = true := by kernel_rfl
theorem law22 : Keyed Try.prog 84 := Keyed.of_law (deep_law_laid laid22 (m := 3) (by omega) (of_decide_eq_true (by kernel_rfl)) (by kernel_rfl) (by rw [Try.underlying84]))

/-- A matter: its kind, a view. -/
def mat (kd v : Int) : Value := .agg #[.int .i64 kd, .int .u64 v, .int .u64 0]
def K (kd v : Int) : Lit := .string (keyBytes [.int .i64 kd, .int .u64 v, .int .u64 0])
theorem cellsM : Try.prog.cellsOf 84 = 3 := by kernel_rfl
theorem cellsI : Try.prog.cellsOf 3 = 1 := by kernel_rfl
theorem cellsU : Try.prog.cellsOf 28 = 1 := by kernel_rfl
theorem key_mk {kd v : Int} (h1 : (Lit.int .i64 kd).wf = true) (h2 : (Lit.int .u64 v).wf = true) : keyOf Try.prog 84 (mat kd v) = some (K kd v) := by
  obtain ⟨m, hm⟩ : ∃ m, Try.prog.types.size = m + 1 := ⟨Try.prog.types.size - 1, by kernel_rfl⟩
  have hk : Try.prog.keyType 84 = true := by kernel_rfl
  have hf : (mat kd v).formed Try.prog 84 = true := by simp [Value.formed, Try.underlying84, cellsM, mat]
  have h0 : (Lit.int .u64 0).wf = true := by decide
  have hl : Try.prog.keyLits (Try.prog.types.size + 1) 84 (mat kd v).cells.toList = some [.int .i64 kd, .int .u64 v, .int .u64 0] := by
    rw [hm]
    simp [Program.keyLits, Try.underlying84, Try.underlying3, Try.underlying28, cellsM, cellsI, cellsU, mat, Value.cells, h1, h2, h0]
  unfold keyOf
  simp only [Try.underlying84, hk, hf, Bool.and_self, if_true, hl, Option.map_some, K]
theorem key_inj {kd v kd' v' : Int} (h1 : (Lit.int .i64 kd).wf = true) (h2 : (Lit.int .u64 v).wf = true) (h3 : (Lit.int .i64 kd').wf = true) (h4 : (Lit.int .u64 v').wf = true) (h : K kd v = K kd' v') : kd = kd' ∧ v = v' := by
  have e := law22.inj (key_mk h1 h2) (h ▸ key_mk h3 h4)
  unfold mat at e
  injection e with e
  simp at e
  exact e
theorem key_is {kd v : Int} (h1 : (Lit.int .i64 kd).wf = true) (h2 : (Lit.int .u64 v).wf = true) {x : Value} (h : keyOf Try.prog 84 x = some (K kd v)) : x = mat kd v := law22.inj h (key_mk h1 h2)
theorem key_lit {kd v : Int} : WideAt.IsKeyLit (K kd v) := by unfold K; simp [WideAt.IsKeyLit]

/-- Rows of bools as they stand in the map. -/
def bval (l : List Bool) : Value := .agg (l.map Value.bool).toArray
def bdat (l : List Bool) : DataW Unit := .agg (l.map fun b => .lit (.bool b))
def unb : List Value → Option (List Bool)
  | [] => some []
  | .bool b :: r => (unb r).map (b :: ·)
  | _ :: _ => none
def RB (v : Value) : Option (DataW Unit × List MemPlace) := match v with
  | .agg cs => (unb cs.toList).bind fun l => if l.length = 7 then some (bdat l, []) else none
  | _ => none
theorem unb_mk : ∀ l : List Bool, unb (l.map Value.bool) = some l
  | [] => rfl
  | b :: l => by simp [unb, unb_mk l]
theorem unb_inv : ∀ {cs : List Value} {l : List Bool}, unb cs = some l → cs = l.map Value.bool
  | [], l, h => by simp [unb] at h; subst h; rfl
  | v :: cs, l, h => by
    cases v <;> simp [unb] at h
    obtain ⟨r, hr, rfl⟩ := h
    simp [unb_inv hr]
theorem RB_mk {l : List Bool} (h : l.length = 7) : RB (bval l) = some (bdat l, []) := by simp [RB, bval, unb_mk, h]
theorem RB_any {v : Value} {y : DataW Unit × List MemPlace} (h : RB v = some y) : ∃ l, v = bval l ∧ y = (bdat l, []) ∧ l.length = 7 := by
  cases v with
  | agg cs =>
    change ((unb cs.toList).bind fun l => if l.length = 7 then some (bdat l, []) else none) = some y at h
    obtain ⟨l, hl, h7⟩ := Option.bind_eq_some_iff.1 h
    by_cases h : l.length = 7
    · rw [if_pos h] at h7
      injection h7 with h7
      exact ⟨l, by unfold bval; rw [← unb_inv hl], h7.symm, h⟩
    · rw [if_neg h] at h7; cases h7
  | _ => simp [RB] at h
theorem lits_inj : ∀ {l l' : List Bool}, (l.map fun b => (DataW.lit (.bool b) : DataW Unit)) = l'.map (fun b => .lit (.bool b)) → l = l'
  | [], [], _ => rfl
  | [], _ :: _, h => by simp at h
  | _ :: _, [], h => by simp at h
  | a :: l, b :: l', h => by
    simp only [List.map_cons, List.cons.injEq, DataW.lit.injEq, Lit.bool.injEq] at h
    rw [h.1, lits_inj h.2]
theorem bdat_inj {l l' : List Bool} (h : bdat l = bdat l') : l = l' := by
  unfold bdat at h
  injection h with h
  exact lits_inj h
theorem RB_inv {v : Value} {l : List Bool} {ps : List MemPlace} (h : RB v = some (bdat l, ps)) : v = bval l := by
  obtain ⟨l', rfl, he, -⟩ := RB_any h
  injection he with he _
  rw [bdat_inj he]

def no7 : List Bool := [false, false, false, false, false, false, false]
/-- The map of block g holds what was told and handed in for the view v, and nothing else. -/
structure VMap (w : World) (g : Nat) (v : Int) (t h : List Bool) : Prop where
  own : ∃ D, w.ownsMap Try.prog 84 RB g 2 D ∧ D.atKey (K 1 v) (bdat no7) = bdat t ∧ D.atKey (K 2 v) (bdat no7) = bdat h ∧ ∀ kl, has D kl = true → kl = K 1 v ∨ kl = K 2 v
  vw : (Lit.int .u64 v).wf = true
  lt : t.length = 7
  lh : h.length = 7

theorem two_keys {a b : Lit} : ∀ {l : List (Lit × DataW Unit)}, l.Pairwise (fun p q => p.1 ≠ q.1) → (∀ p ∈ l, p.1 = a ∨ p.1 = b) → l.length ≤ 2
  | [], _, _ => by simp
  | [_], _, _ => by simp
  | [_, _], _, _ => by simp
  | x :: y :: z :: r, hp, hk => by
    exfalso
    simp only [List.pairwise_cons, List.mem_cons] at hp
    obtain ⟨h1, h2, _⟩ := hp
    have hxy := h1 y (.inl rfl)
    have hxz := h1 z (.inr (.inl rfl))
    have hyz := h2 z (.inl rfl)
    have kx := hk x (by simp)
    have ky := hk y (by simp)
    have kz := hk z (by simp)
    rcases kx with kx | kx <;> rcases ky with ky | ky <;> rcases kz with kz | kz <;> simp_all
theorem own_two {w : World} {g n : Nat} {D : DataW Unit} {a b : Lit} (h : w.ownsMap Try.prog 84 RB g n D) (hk : ∀ kl, has D kl = true → kl = a ∨ kl = b) : w.ownsMap Try.prog 84 RB g 2 D := by
  obtain ⟨es0, he, hp, hkl⟩ := h.entries law22
  obtain ⟨es, clock, hb, F, _, hD⟩ := h
  refine ⟨es, clock, hb, F, ?_, hD⟩
  have hlen : es.size = es0.length := by
    rw [he] at hD
    injection hD with hD
    rw [hD, length_sorted]
    simp
  rw [hlen]
  refine two_keys hp fun p hpm => hk _ ?_
  rw [he]
  exact List.any_eq_true.2 ⟨p, hpm, WideAt.sameKey_self (hkl p hpm)⟩

section
variable {w w' : World} {g : Nat} {v : Int} {t h : List Bool}
theorem VMap.lt_ (H : VMap w g v t h) : g < w.heap.size := by obtain ⟨⟨D, hD, -⟩, -⟩ := H; exact hD.lt
theorem VMap.kept (H : VMap w g v t h) (hk : w'.heap[g]? = w.heap[g]?) : VMap w' g v t h := by
  obtain ⟨⟨D, ⟨es, clock, hb, r⟩, hD⟩, h3, h4, h5⟩ := H
  exact ⟨⟨D, ⟨es, clock, hk.trans hb, r⟩, hD⟩, h3, h4, h5⟩
theorem VMap.below (H : VMap w g v t h) (hb : Below w.heap.size w w') : VMap w' g v t h := H.kept (hb.block g H.lt_)
theorem VMap.ext {M : Nat → Prop} (H : VMap w g v t h) (hb : Ext M w w') (hg : ¬ M g) : VMap w' g v t h := H.kept (hb.block g H.lt_ hg)
theorem VMap.new (w : World) {v : Int} (hv : (Lit.int .u64 v).wf = true) : VMap (w.alloc (.map #[] 0)) w.heap.size v no7 no7 :=
  ⟨⟨.map [], (World.ownsMap_made w _ _ _).mono (by omega), rfl, rfl, fun kl h => by simp [has] at h⟩, hv, rfl, rfl⟩
theorem VMap.newview (H : VMap w g v no7 no7) (hD : ∃ D, w.ownsMap Try.prog 84 RB g 2 D ∧ D = .map []) {v' : Int} (hv : (Lit.int .u64 v').wf = true) : VMap w g v' no7 no7 := by
  obtain ⟨D, hD, rfl⟩ := hD
  exact ⟨⟨_, hD, rfl, rfl, fun kl h => by simp [has] at h⟩, hv, rfl, rfl⟩
theorem kwf1 : (Lit.int .i64 1).wf = true := by decide
theorem kwf2 : (Lit.int .i64 2).wf = true := by decide
theorem zero7 (w : World) : (zeroValue 101).run Try.prog w = .ok (bval no7) w := by kernel_rfl
def sel (kd : Int) (t h : List Bool) : List Bool := if kd = 1 then t else h
/-- 'v.by[m]'. -/
theorem VMap.look (H : VMap w g v t h) {kd : Int} (hkd : kd = 1 ∨ kd = 2) : (Instr.lookup 97 (.map (some g)) (mat kd v) false).run Try.prog w = .ok (bval (sel kd t h)) w := by
  obtain ⟨⟨D, hD, h1, h2, -⟩, hv, -⟩ := H
  rcases hkd with rfl | rfl
  · obtain ⟨u, ps, hrun, hr⟩ := hD.lookup law22 Try.underlying97 (zero7 w) (RB_mk (l := no7) rfl) (key_mk kwf1 hv)
    rw [h1] at hr
    rw [hrun, RB_inv hr]
    rfl
  · obtain ⟨u, ps, hrun, hr⟩ := hD.lookup law22 Try.underlying97 (zero7 w) (RB_mk (l := no7) rfl) (key_mk kwf2 hv)
    rw [h2] at hr
    rw [hrun, RB_inv hr]
    rfl
/-- 'v.by[m] = who'. -/
theorem VMap.put (H : VMap w g v t h) {kd : Int} (hkd : kd = 1 ∨ kd = 2) {l : List Bool} (hl : l.length = 7) : ∃ w', (Instr.mapUpdate 97 (.map (some g)) (mat kd v) (bval l)).run Try.prog w = .ok () w' ∧
    VMap w' g v (if kd = 1 then l else t) (if kd = 1 then h else l) ∧ w.grownBy w' (some g) := by
  obtain ⟨⟨D, hD, h1, h2, h3⟩, hv, l1, l2⟩ := H
  have hne : K 1 v ≠ K 2 v := fun e => by have := (key_inj kwf1 hv kwf2 hv e).1; omega
  rcases hkd with rfl | rfl
  · obtain ⟨w', hrun, ho, hg⟩ := hD.update law22 Try.underlying97 (by unfold maxLen; omega) (key_mk kwf1 hv) (RB_mk hl)
    refine ⟨w', hrun, ⟨⟨_, own_two (a := K 1 v) (b := K 2 v) ho ?_, atKey_put_same hD.isMap key_lit _ _, by rw [atKey_put_other hne.symm]; exact h2, ?_⟩, hv, hl, l2⟩, hg⟩
    all_goals
      intro kl hk
      by_cases he : kl = K 1 v
      · exact .inl he
      · rw [has_put_other he] at hk
        exact h3 kl hk
  · obtain ⟨w', hrun, ho, hg⟩ := hD.update law22 Try.underlying97 (by unfold maxLen; omega) (key_mk kwf2 hv) (RB_mk hl)
    refine ⟨w', hrun, ⟨⟨_, own_two (a := K 1 v) (b := K 2 v) ho ?_, by rw [atKey_put_other hne]; exact h1, atKey_put_same hD.isMap key_lit _ _, ?_⟩, hv, l1, hl⟩, hg⟩
    all_goals
      intro kl hk
      by_cases he : kl = K 2 v
      · exact .inr he
      · rw [has_put_other he] at hk
        exact h3 kl hk
end
end Go.Proofs.Ytgmekodfkhihiaa
