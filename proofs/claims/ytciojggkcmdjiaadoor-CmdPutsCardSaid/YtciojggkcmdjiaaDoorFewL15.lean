/-
  Operations in new memory, cut short one by one; beginnings of rows. No walk.
-/
import Derived.Test.YtciojggkcmdjiaaDoorSamA15
import Derived.Test.YtciojggkcmdjiaaDoorAwk15
import Derived.Test.YtciojggkcmdjiaaDoorSameC15
import Derived.LoopTactic
import Derived.Deep.DeepCutAuto
import Derived.Deep.CutBlock
import Derived.Test.YtciojggkcmdjiaaDoorOrd
import Derived.Deep.RegionLawGrows
namespace Go.Proofs.YtciojggkcmdjiaaDoor
open Go.RowKit
set_option linter.unusedSimpArgs false
set_option linter.unusedVariables false

def cutO (o : Opr) : Opr := { o with us := o.us.take 300 }
def fewA (a : An) : An := { a with text := a.text.take 300, ops := (a.ops.take 20).map cutO, seats := a.seats.take 20 }
theorem UtsRd.front_ {w : World} {S : Nat → Prop} {p : Option Addr} {c k : Nat} {us x : List Ut} (h : UtsRd w S (.slice p us.length c) us) (hx : us.take k = x) : UtsRd w S (.slice p x.length c) x ∧ x.length ≤ k ∧ x.length ≤ us.length := by
  subst hx
  rw [List.length_take]
  refine ⟨?_, by omega, by omega⟩
  obtain ⟨cs, hr, hE⟩ := h
  rcases Nat.le_total k us.length with hk | hk
  · rw [Nat.min_eq_left hk]
    exact ⟨cs.take (k * 5), by rw [List.length_take, Nat.min_eq_left hk]; exact Rd.front hr hk, hE.take k⟩
  · rw [Nat.min_eq_right hk, List.take_of_length_le hk]
    exact ⟨cs, hr, hE⟩
theorem ChsRd.front_ {w : World} {S : Nat → Prop} {p : Option Addr} {c k : Nat} {us x : List Int} (h : ChsRd w S (.slice p us.length c) us) (hx : us.take k = x) : ChsRd w S (.slice p x.length c) x ∧ x.length ≤ k ∧ x.length ≤ us.length := by
  subst hx
  rw [List.length_take]
  refine ⟨?_, by omega, by omega⟩
  have e : chCells (us.take k) = (chCells us).take k := by unfold chCells; rw [List.map_take]
  unfold ChsRd at h ⊢
  rw [List.length_take, e]
  rcases Nat.le_total k us.length with hk | hk
  · rw [Nat.min_eq_left hk]
    have := Rd.front h hk
    rwa [Nat.mul_one] at this
  · rw [Nat.min_eq_right hk, List.take_of_length_le (by unfold chCells; rw [List.length_map]; exact hk)]
    exact h
theorem OpsRd.front_ {w : World} {S : Nat → Prop} {p : Option Addr} {c k : Nat} {us x : List Opr} (h : OpsRd w S (.slice p us.length c) us) (hx : us.take k = x) : OpsRd w S (.slice p x.length c) x ∧ x.length ≤ k ∧ x.length ≤ us.length := by
  subst hx
  rw [List.length_take]
  refine ⟨?_, by omega, by omega⟩
  obtain ⟨cs, hr, hE⟩ := h
  rcases Nat.le_total k us.length with hk | hk
  · rw [Nat.min_eq_left hk]
    exact ⟨cs.take (k * 4), by rw [List.length_take, Nat.min_eq_left hk]; exact Rd.front hr hk, hE.take k⟩
  · rw [Nat.min_eq_right hk, List.take_of_length_le hk]
    exact ⟨cs, hr, hE⟩
theorem StsRd.front_ {w : World} {S : Nat → Prop} {p : Option Addr} {c k : Nat} {us x : List St} (h : StsRd w S (.slice p us.length c) us) (hx : us.take k = x) : StsRd w S (.slice p x.length c) x ∧ x.length ≤ k ∧ x.length ≤ us.length := by
  subst hx
  rw [List.length_take]
  refine ⟨?_, by omega, by omega⟩
  obtain ⟨cs, hr, hE⟩ := h
  rcases Nat.le_total k us.length with hk | hk
  · rw [Nat.min_eq_left hk]
    exact ⟨cs.take (k * 3), by rw [List.length_take, Nat.min_eq_left hk]; exact Rd.front hr hk, hE.take k⟩
  · rw [Nat.min_eq_right hk, List.take_of_length_le hk]
    exact ⟨cs, hr, hE⟩
/-- Cell by cell: operations read. -/
theorem ops_of_cells {w : World} {S : Nat → Prop} {g off c : Nat} {os : List Opr} (hc : os.length ≤ c) (hm : c ≤ maxLen) (hS : S g)
    (key : ∀ i (h : i < os.length), ∃ q k, w.cell? ⟨g, off + i * 4, none⟩ = some (.int .u32 os[i].cl) ∧ w.cell? ⟨g, off + i * 4 + 1, none⟩ = some (.int .u64 os[i].rq) ∧ w.cell? ⟨g, off + i * 4 + 2, none⟩ = some (.slice q os[i].us.length k) ∧ w.cell? ⟨g, off + i * 4 + 3, none⟩ = some (.bool os[i].un) ∧ UtsRd w S (.slice q os[i].us.length k) os[i].us) :
    OpsRd w S (.slice (some ⟨g, off, none⟩) os.length c) os := by
  have build : ∀ n, n ≤ os.length → ∃ cs : List Value, Els (OprR w S) 4 cs (os.take n) ∧ ∀ j u, cs[j]? = some u → w.cell? ⟨g, off + j, none⟩ = some u := by
    intro n
    induction n with
    | zero => exact fun _ => ⟨[], by rw [List.take_zero]; exact Els.nil _ _, fun j u h => by simp at h⟩
    | succ n ih =>
      intro hn
      obtain ⟨cs, hE, hcell⟩ := ih (by omega)
      obtain ⟨q, k, e0, e1, e2, e3, hu⟩ := key n (by omega)
      have hl : cs.length = n * 4 := by rw [hE.1, List.length_take]; congr 1; omega
      refine ⟨cs ++ [.int .u32 os[n].cl, .int .u64 os[n].rq, .slice q os[n].us.length k, .bool os[n].un], ?_, ?_⟩
      · rw [List.take_succ_eq_append_getElem (by omega)]
        exact Els.snoc hE rfl ⟨q, k, rfl, hu⟩
      · intro j u hu
        rcases Nat.lt_or_ge j cs.length with hj | hj
        · rw [List.getElem?_append_left hj] at hu
          exact hcell j u hu
        · rw [List.getElem?_append_right hj] at hu
          obtain ⟨i, rfl⟩ : ∃ i, j = n * 4 + i := ⟨j - n * 4, by omega⟩
          rw [hl, Nat.add_sub_cancel_left] at hu
          match i, hu with
          | 0, hu => simp at hu; subst hu; exact e0
          | 1, hu => simp at hu; subst hu; exact e1
          | 2, hu => simp at hu; subst hu; exact e2
          | 3, hu => simp at hu; subst hu; exact e3
          | i + 4, hu => simp at hu
  obtain ⟨cs, hE, hcell⟩ := build os.length (Nat.le_refl _)
  rw [List.take_length] at hE
  exact ⟨cs, ⟨hE.1, _, c, rfl, hc, hm, fun _ => ⟨g, off, rfl, hS, hcell⟩⟩, hE⟩
/-- Operations in new memory; their units lie where they lay. -/
def OwnOps (w0 w : World) (S : Nat → Prop) (p : Option Addr) (c : Nat) (os : List Opr) : Prop :=
  os.length ≤ c ∧ c ≤ maxLen ∧ (0 < os.length → ∃ g, p = some ⟨g, 0, none⟩ ∧ w0.heap.size ≤ g ∧ (∃ cur, Blk w g 46 cur) ∧
    ∀ i (h : i < os.length), ∃ q k, w.cell? ⟨g, i * 4, none⟩ = some (.int .u32 os[i].cl) ∧ w.cell? ⟨g, i * 4 + 1, none⟩ = some (.int .u64 os[i].rq) ∧ w.cell? ⟨g, i * 4 + 2, none⟩ = some (.slice q os[i].us.length k) ∧ w.cell? ⟨g, i * 4 + 3, none⟩ = some (.bool os[i].un) ∧ UtsRd w0 S (.slice q os[i].us.length k) os[i].us)
theorem OwnOps.rd {w0 w : World} {S : Nat → Prop} {p : Option Addr} {c : Nat} {os : List Opr} (h : OwnOps w0 w S p c os) (hb : Below w0.heap.size w0 w) : OpsRd w (fun j => S j ∨ (w0.heap.size ≤ j ∧ j < w.heap.size)) (.slice p os.length c) os := by
  obtain ⟨h1, h2, h3⟩ := h
  rcases Nat.eq_zero_or_pos os.length with h0 | h0
  · obtain rfl := List.eq_nil_of_length_eq_zero h0
    exact ⟨[], ⟨rfl, p, c, rfl, Nat.zero_le _, h2, fun h => absurd h (by simp)⟩, Els.nil _ _⟩
  · obtain ⟨g, rfl, hg, ⟨cur, hk⟩, key⟩ := h3 h0
    refine ops_of_cells h1 h2 (.inr ⟨hg, hk.lt⟩) fun i hi => ?_
    obtain ⟨q, k, e0, e1, e2, e3, hu⟩ := key i hi
    refine ⟨q, k, by rw [Nat.zero_add]; exact e0, by rw [Nat.zero_add]; exact e1, by rw [Nat.zero_add]; exact e2, by rw [Nat.zero_add]; exact e3, ?_⟩
    exact (hu.below hb).into fun j hj => .inl hj
theorem OwnOps.set {w0 w : World} {S : Nat → Prop} {g c k q : Nat} {os : List Opr} {p' : Option Addr} {us : List Ut} (h : OwnOps w0 w S (some ⟨g, 0, none⟩) c os) (hk : k < os.length) (hu : UtsRd w0 S (.slice p' us.length q) us) :
    OwnOps w0 (w.setCell ⟨g, k * 4 + 2, none⟩ (.slice p' us.length q)) S (some ⟨g, 0, none⟩) c (os.set k { os[k] with us := us }) := by
  obtain ⟨h1, h2, h3⟩ := h
  refine ⟨by rw [List.length_set]; exact h1, h2, fun _ => ?_⟩
  obtain ⟨g', he, hg, ⟨cur, hb⟩, key⟩ := h3 (by omega)
  injection he with he
  injection he with he
  subst he
  refine ⟨g, rfl, hg, ⟨_, hb.set_ _ _⟩, fun i hi => ?_⟩
  rw [List.length_set] at hi
  obtain ⟨q', k', e0, e1, e2, e3, hv⟩ := key i hi
  have far : ∀ {j : Nat} {v : Value}, j ≠ k * 4 + 2 → w.cell? ⟨g, j, none⟩ = some v → (w.setCell ⟨g, k * 4 + 2, none⟩ (.slice p' us.length q)).cell? ⟨g, j, none⟩ = some v := by
    intro j v hj hc
    rw [World.cell?_setCell_other w _ _ _ (fun e => hj (by injection e with _ e; exact e.symm))]
    exact hc
  by_cases hik : i = k
  · subst hik
    rw [List.getElem_set_self]
    refine ⟨p', q, far (by omega) e0, far (by omega) e1, ?_, far (by omega) e3, hu⟩
    exact World.cell?_setCell_same w _ _ (by rw [e2])
  · rw [List.getElem_set_ne (by omega)]
    exact ⟨q', k', far (by omega) e0, far (by omega) e1, far (by omega) e2, far (by omega) e3, hv⟩
theorem OwnOps.next {w0 w w' : World} {S : Nat → Prop} {p : Option Addr} {c : Nat} {os : List Opr} (h : OwnOps w0 w S p c os) (hc : ∀ g, w0.heap.size ≤ g → g < w.heap.size → w'.heap[g]? = w.heap[g]?) : OwnOps w0 w' S p c os := by
  obtain ⟨h1, h2, h3⟩ := h
  refine ⟨h1, h2, fun h0 => ?_⟩
  obtain ⟨g, rfl, hg, ⟨cur, hb⟩, key⟩ := h3 h0
  have hcell : ∀ j, w'.cell? ⟨g, j, none⟩ = w.cell? ⟨g, j, none⟩ := fun j => cell_keep (hc g hg hb.lt)
  refine ⟨g, rfl, hg, ⟨cur, (hc g hg hb.lt).trans hb⟩, fun i hi => ?_⟩
  obtain ⟨q, k, e0, e1, e2, e3, hv⟩ := key i hi
  exact ⟨q, k, (hcell _).trans e0, (hcell _).trans e1, (hcell _).trans e2, (hcell _).trans e3, hv⟩
theorem OwnOps.far {w0 w : World} {S : Nat → Prop} {p : Option Addr} {c b : Nat} {cs : Array Value} {os : List Opr} (h : OwnOps w0 w S p c os) (hb : Blk w b 41 cs) (i : Nat) (u : Value) : OwnOps w0 (w.setCell ⟨b, i, none⟩ u) S p c os := by
  obtain ⟨h1, h2, h3⟩ := h
  refine ⟨h1, h2, fun h0 => ?_⟩
  obtain ⟨g, rfl, hg, ⟨cur, hk⟩, key⟩ := h3 h0
  have hne : g ≠ b := by
    rintro rfl
    have h1 := hk.symm.trans hb
    injection h1 with h1
    injection h1 with _ h1
    exact absurd h1 (by decide)
  refine ⟨g, rfl, hg, ⟨cur, hk.far (p := ⟨b, i, none⟩) hne u⟩, fun j hj => ?_⟩
  obtain ⟨q, k, e0, e1, e2, e3, hv⟩ := key j hj
  exact ⟨q, k, (cell_far hne).trans e0, (cell_far hne).trans e1, (cell_far hne).trans e2, (cell_far hne).trans e3, hv⟩
theorem infoO : (Tryd.prog.info? 46).map (fun i => (i.zero.map (·.cells.size), i.size, i.bytes)) = some (some 4, 4, 48) := by kernel_rfl
theorem cut_step {os : List Opr} {k : Nat} (hk : k < os.length) : ((os.take k).map cutO ++ os.drop k).set k (cutO os[k]) = (os.take (k + 1)).map cutO ++ os.drop (k + 1) := by
  have hl : ((os.take k).map cutO).length = k := by rw [List.length_map, List.length_take]; omega
  rw [List.set_append_right _ _ (by omega), hl, Nat.sub_self, List.drop_eq_getElem_cons hk, List.set_cons_zero, List.take_succ_eq_append_getElem hk, List.map_append]
  simp
theorem cut_at {os : List Opr} {k : Nat} (hk : k < os.length) : ∃ h : k < ((os.take k).map cutO ++ os.drop k).length, ((os.take k).map cutO ++ os.drop k)[k]'h = os[k] := by
  have hl : ((os.take k).map cutO).length = k := by rw [List.length_map, List.length_take]; omega
  have h : k < ((os.take k).map cutO ++ os.drop k).length := by rw [List.length_append, hl, List.length_drop]; omega
  refine ⟨h, ?_⟩
  rw [List.getElem_append_right (by omega)]
  simp only [hl, Nat.sub_self, List.getElem_drop, Nat.add_zero]
theorem run_append_nil_op (w : World) (ty : TypeId) (b : Addr) (p : Option Addr) (c : Nat) :
    (Builtin.append_ #[38, 38] ty #[.slice (some b) 0 0, .slice p 0 c]).run Tryd.prog w = .ok (.slice (some b) 0 0) w := by
  obtain ⟨i, hi⟩ : ∃ i, Tryd.prog.info? 46 = some i := by
    have := infoO
    cases h : Tryd.prog.info? 46 with
    | none => rw [h] at this; cases this
    | some i => exact ⟨i, rfl⟩
  cases p <;> (simp [Builtin.append_, run_underlying Tryd.underlying38, sizeOf, typeInfo, hi, Builtin.lenOf, Builtin.firstCells]; rfl)
set_option maxRecDepth 100000 in
/-- An append of operations onto an empty literal: a row of one's own. -/
theorem step_ops {ops : Array Oper} {o : Oper} {a : Act} {w0 w : World} {S : Nat → Prop} {K : Act → World → Prop} {Q : Exit → Act → World → Prop} {E : Prop} (hg : o.guard = none) (s x : Operand)
    (ho : o.op = .call { callee := .builtin .append, args := #[s, x], argTypes := #[38, 38] }) {g : Nat} {os : List Opr} {p : Option Addr} {c : Nat} (hs : a.eval s = .slice (some ⟨g, 0, none⟩) 0 0) (hx : a.eval x = .slice p os.length c)
    (hb0 : Below w0.heap.size w0 w) (hgl : w0.heap.size ≤ g) (hgb : Blk w g 46 #[]) (hr : OpsRd w0 S (.slice p os.length c) os) (hl : os.length ≤ 1000)
    (hK : ∀ p' c' w', OwnOps w0 w' S p' c' os → Below w0.heap.size w0 w' → (∀ k, k < w.heap.size → k ≠ g → w'.heap[k]? = w.heap[k]?) → w.heap.size ≤ w'.heap.size → K (a.put o.dst (.slice p' os.length c')) w') :
    if Region.wanted o (yielded ops a.tmps) = true then Oper.wp Tryd.prog o a w K Q else E := by
  have hwt : Region.wanted o (yielded ops a.tmps) = true := by simp [Region.wanted, hg]
  rw [if_pos hwt]
  rcases Nat.eq_zero_or_pos os.length with h0 | h0
  · obtain rfl := List.eq_nil_of_length_eq_zero h0
    have hrun := run_append_nil_op w o.type ⟨g, 0, none⟩ p c
    have hx' : a.eval x = .slice p 0 c := hx
    unfold Oper.wp
    simp [execOp, ho, resolve, invoke, builtin, hs, hx', hrun, Result.andThen]
    exact hK (some ⟨g, 0, none⟩) 0 w ⟨Nat.le_refl _, by unfold maxLen; omega, fun h => absurd h (by simp)⟩ hb0 (fun _ _ _ => rfl) (Nat.le_refl _)
  · have hr' := hr.below hb0
    obtain ⟨cs, hrd, hE⟩ := hr
    obtain ⟨b, off, rfl, _, _, _⟩ := Rd.addr hrd h0
    obtain ⟨i, hi⟩ : ∃ i, Tryd.prog.info? 46 = some i := by
      have := infoO
      cases h : Tryd.prog.info? 46 with
      | none => rw [h] at this; cases this
      | some i => exact ⟨i, rfl⟩
    have hio := infoO
    rw [hi] at hio
    simp only [Option.map_some, Option.some.injEq, Prod.mk.injEq] at hio
    obtain ⟨hz, hz1, hz2⟩ := hio
    obtain ⟨z, hz0⟩ : ∃ z, i.zero = some z := by
      cases h : i.zero with
      | none => rw [h] at hz; cases hz
      | some z => exact ⟨z, rfl⟩
    have hzs : z.cells.size = 4 := by rw [hz0] at hz; simpa using hz
    have hown : w.ownsRow w0.heap.size 46 4 (.slice (some ⟨g, 0, none⟩) 0 0) 0 [] := ⟨rfl, .inr ⟨g, 0, #[], rfl, hgl, hgb, Nat.le_refl _, by unfold maxLen; omega, rfl, rfl⟩⟩
    have hcell : ∀ j u, cs[j]? = some u → w.cell? ((⟨b, off, none⟩ : Addr).add j) = some u := by
      intro j u hu
      rw [show (⟨b, off, none⟩ : Addr).add j = ⟨b, off + j, none⟩ from by unfold Addr.add; split <;> simp_all]
      obtain ⟨b', off', he, _, _, hc⟩ := Rd.addr hrd h0
      injection he with he
      injection he with he1 he2
      subst he1; subst he2
      have h1 := hc j u hu
      exact (hb0.cell (p := ⟨b, off + j, none⟩) (lt_of_cell h1)).trans h1
    obtain ⟨v', w', hrun, hown', hgrow, hnil⟩ := run_append_own (P := Tryd.prog) w w0.heap.size 38 o.type 46 i z 4 48 Tryd.underlying38 hi hz0 hz1 hz2 hzs (by decide) _ 0 [] hown ⟨b, off, none⟩ os.length c cs hrd.len hcell (hE.one (fun c x hc => hc.four) (by decide)) (by unfold maxLen; omega) (by omega) hb0.size
    rw [Nat.zero_add, List.nil_append] at hown'
    unfold Oper.wp
    simp [execOp, ho, resolve, invoke, builtin, hs, hx, hrun, Result.andThen]
    have hbl : Below w0.heap.size w0 w' := hb0.grown hgrow hb0.size (fun k hk => by simp [Value.ownBlock] at hk; omega)
    rcases hown'.2 with ⟨-, he⟩ | ⟨g', cap, cur, rfl, hg', hh, hnc, hcm, hsz, htk⟩
    · omega
    · refine hK (some ⟨g', 0, none⟩) cap w' ⟨hnc, hcm, fun _ => ⟨g', rfl, hg', ⟨cur, hh⟩, fun j hj => ?_⟩⟩ hbl (fun k hk hne => ?_) ?_
      · obtain ⟨q, k, hu, hU⟩ := hE.2 j os[j] (List.getElem?_eq_getElem hj)
        obtain ⟨h0, h1, h2, h3⟩ := fourA_at hu
        have hcc : ∀ n v, cs[n]? = some v → w'.cell? ⟨g', n, none⟩ = some v := by
          intro n v hv
          have hnl : n < cs.length := (List.getElem?_eq_some_iff.1 hv).1
          rw [← htk, List.getElem?_take] at hv
          split at hv
          · have : cur[n]? = some v := by rw [← Array.getElem?_toList]; exact hv
            simp [World.cell?, hh, this]
          · cases hv
        exact ⟨q, k, hcc _ _ h0, hcc _ _ h1, hcc _ _ h2, hcc _ _ h3, hU⟩
      · exact hgrow.block k hk (by simp [Value.ownBlock]; exact fun e => hne e)
      · exact hgrow.size
end Go.Proofs.YtciojggkcmdjiaaDoor
