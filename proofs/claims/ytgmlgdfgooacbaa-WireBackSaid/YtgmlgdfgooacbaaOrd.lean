/-
  A region that draws its order and stores into what it loads. S is owed behind every operation; T as long as no late operation has come up. An operation may be taken first where it yields its value in every world that meets S; or S and T, where every late operation waits for it.
-/
import Derived.OrdersHeld
import Derived.Handy
namespace Go.Proofs.Ytgmlgdfgooacbaa

section
variable {P : Program} {ops : Array Oper} {Q : Exit → Act → World → Prop} {md : Region.Mode} {S T : World → Prop} {D : List Nat}

/-- No late operation has come up. -/
def noLate (D : List Nat) (listed : Array Bool) : Bool := D.all fun d => !listed.getD d true

theorem noLate_set {i : Nat} {listed : Array Bool} (h : D.contains i = false) : noLate D (listed.setIfInBounds i true) = noLate D listed := by
  unfold noLate
  rw [Bool.eq_iff_iff, List.all_eq_true, List.all_eq_true]
  have hne : ∀ d ∈ D, i ≠ d := by
    rintro d hd rfl
    rw [List.contains_eq_mem, decide_eq_false_iff_not] at h
    exact h hd
  constructor
  · intro hh d hd
    rw [← getD_set_ne true (hne d hd)]
    exact hh d hd
  · intro hh d hd
    rw [getD_set_ne true (hne d hd)]
    exact hh d hd

/-- Whatever order is picked from here on. -/
def wpAnyD (P : Program) (md : Region.Mode) (ops : Array Oper) (Q : Exit → Act → World → Prop) (S T : World → Prop) (D : List Nat) : Nat → Array Bool → Act → World → Prop
  | 0, listed, a, w => Region.ready md ops listed = [] ∧ Q .normal a w
  | fuel + 1, listed, a, w =>
    (Region.ready md ops listed = [] → Q .normal a w) ∧
    ∀ i ∈ Region.ready md ops listed, wpOp P ops Q i (fun a' w' => (S w' ∧ (noLate D (listed.setIfInBounds i true) = true → T w')) ∧ wpAnyD P md ops Q S T D fuel (listed.setIfInBounds i true) a' w') a w

theorem wpAny_of_D : ∀ (fuel : Nat) (listed : Array Bool) (a : Act) (w : World), wpAnyD P md ops Q S T D fuel listed a w → wpAny P md ops Q fuel listed a w
  | 0, _, _, _, h => h
  | fuel + 1, _, _, _, h => ⟨h.1, fun i hi => wpOp_mono (fun a' w' h' => wpAny_of_D fuel _ a' w' h'.2) (h.2 i hi)⟩

/-- Every late operation that has not come up waits for number i. -/
def lateWait (md : Region.Mode) (ops : Array Oper) (D : List Nat) (listed : Array Bool) (i : Nat) : Bool :=
  D.all fun j => listed.getD j true || match ops[j]? with
    | some oj => oj.after.any (fun e => Region.binds md e && e.on == i)
    | none => true

theorem lateWait_spec {listed : Array Bool} {i j : Nat} {oj : Oper} (h : lateWait md ops D listed i = true) (hj : D.contains j = true) (hl : listed.getD j true = false) (ho : ops[j]? = some oj) :
    ∃ e ∈ oj.after, Region.binds md e = true ∧ e.on = i := by
  have h1 := (List.all_eq_true.1 h) j (by simpa using hj)
  simp only [hl, Bool.false_or, ho] at h1
  obtain ⟨e, he, hb⟩ := Array.any_eq_true'.1 h1
  simp only [Bool.and_eq_true, beq_iff_eq] at hb
  exact ⟨e, he, hb⟩

theorem wpAnyD_first (useT : Bool) {i : Nat} {oi : Oper} {v : Value} (hi : ops[i]? = some oi) (hiD : D.contains i = false) (hsel : ∀ (j : Nat) (o : Oper) cs b, ops[j]? = some o → o.op ≠ .select cs b)
    (hQ : ∀ c a w, Q (.panic c) (a.put oi.dst v) w → Q (.panic c) a w) :
    ∀ (fuel : Nat) (listed : Array Bool) (a : Act) (w : World),
      (∀ j oj, ops[j]? = some oj → j ≠ i → listed.getD j true = false → (∀ e ∈ oj.after, Region.binds md e = true → e.on ≠ i) → oi.apart ops oj = true) →
      (useT = true → ∀ j oj, ops[j]? = some oj → listed.getD j true = false → D.contains j = true → ∃ e ∈ oj.after, Region.binds md e = true ∧ e.on = i) →
      (useT = true → noLate D listed = true) →
      i ∈ Region.ready md ops listed → YieldsIf P ops (fun w => S w ∧ (useT = true → T w)) oi v a → S w → (noLate D listed = true → T w) →
      wpAnyD P md ops Q S T D fuel (listed.setIfInBounds i true) (a.put oi.dst v) w → wpAnyD P md ops Q S T D (fuel + 1) listed a w := by
  intro fuel
  induction fuel with
  | zero =>
    intro listed a w _ _ hno hr hy hS hT H
    refine ⟨fun h => (by rw [h] at hr; cases hr), fun j hj => ?_⟩
    by_cases hji : j = i
    · subst hji; exact hy.wpOp hi ⟨hS, fun h => hT (hno h)⟩ ⟨⟨hS, fun h => hT (by rw [← noLate_set hiD]; exact h)⟩, H⟩
    · have := ready_mono hj hji
      rw [H.1] at this
      cases this
  | succ fuel ih =>
    intro listed a w hfree hlate hno hr hy hS hT H
    refine ⟨fun h => (by rw [h] at hr; cases hr), fun j hj => ?_⟩
    by_cases hji : j = i
    · subst hji; exact hy.wpOp hi ⟨hS, fun h => hT (hno h)⟩ ⟨⟨hS, fun h => hT (by rw [← noLate_set hiD]; exact h)⟩, H⟩
    · have h1 := H.2 j (ready_mono hj hji)
      obtain ⟨hjun, oj, hoj, hall⟩ := mem_ready.1 hj
      have hnot : ∀ e ∈ oj.after, Region.binds md e = true → e.on ≠ i := fun e he hb heq => by
        have h1 := hall e he hb
        have h0 := (mem_ready.1 hr).1
        rw [heq] at h1
        rcases Nat.lt_or_ge i listed.size with h' | h'
        · simp [h'] at h0 h1; rw [h0] at h1; cases h1
        · simp [Array.getElem?_eq_none h'] at h1
      have hno' : useT = true → noLate D (listed.setIfInBounds j true) = true := fun hu => by
        rw [noLate_set]
        · exact hno hu
        · cases hc : D.contains j with
          | false => rfl
          | true =>
            obtain ⟨e, he, hb, hon⟩ := hlate hu j oj hoj hjun hc
            exact absurd hon (hnot e he hb)
      have h2 := wpOp_putIf hoj (hfree j oj hoj hji hjun hnot) (fun cs b => hsel i oi cs b hi) (fun cs b => hsel j oj cs b hoj) hQ hy h1
      have hun' : ∀ k, (listed.setIfInBounds j true).getD k true = false → listed.getD k true = false := fun k hun => by
        by_cases hjk : j = k
        · subst hjk; exact hjun
        · rw [getD_set_ne true hjk] at hun; exact hun
      have hcomm : (listed.setIfInBounds i true).setIfInBounds j true = (listed.setIfInBounds j true).setIfInBounds i true := Array.setIfInBounds_comm _ _ (Ne.symm hji)
      refine wpOp_mono (fun a' w' h3 => ?_) h2
      have hT' : noLate D (listed.setIfInBounds j true) = true → T w' := fun h => h3.2.1.2 (by rw [hcomm, noLate_set hiD]; exact h)
      refine ⟨⟨h3.2.1.1, hT'⟩, ih (listed.setIfInBounds j true) a' w' (fun k ok hk hki hun hno => hfree k ok hk hki (hun' k hun) hno) (fun hu k ok hk hun => hlate hu k ok hk (hun' k hun)) hno' (ready_mono hr (Ne.symm hji)) h3.1 h3.2.1.1 hT' ?_⟩
      rw [← hcomm]
      exact h3.2.2

/-- Take number i first: S alone is asked. -/
theorem take_S (i : Nat) {oi : Oper} {v : Value} {fuel : Nat} {listed : Array Bool} {a : Act} {w : World} (hi : ops[i]? = some oi) (hiD : D.contains i = false)
    (hs : Region.noSelect ops = true) (hf : Region.free md ops listed i = true) (hr : (Region.ready md ops listed).contains i = true)
    (hQ : ∀ c a w, Q (.panic c) (a.put oi.dst v) w → Q (.panic c) a w) (hS : S w) (hT : noLate D listed = true → T w) (hw : Region.wanted oi (yielded ops a.tmps) = true)
    (hy : ∀ w, S w → (execOp a.eval oi).run P w = .ok (.value v) w)
    (h : wpAnyD P md ops Q S T D fuel (listed.setIfInBounds i true) (a.put oi.dst v) w) : wpAnyD P md ops Q S T D (fuel + 1) listed a w :=
  wpAnyD_first false hi hiD (Region.noSelect_spec hs) hQ fuel listed a w (Region.free_spec hi hf) (fun h => absurd h (by decide)) (fun h => absurd h (by decide)) (by simpa using hr) (.inl ⟨hw, fun w hw => hy w hw.1⟩) hS hT h

/-- Take number i first: S and T. -/
theorem take_T (i : Nat) {oi : Oper} {v : Value} {fuel : Nat} {listed : Array Bool} {a : Act} {w : World} (hi : ops[i]? = some oi) (hiD : D.contains i = false)
    (hs : Region.noSelect ops = true) (hf : Region.free md ops listed i = true) (hr : (Region.ready md ops listed).contains i = true) (hl : lateWait md ops D listed i = true) (hn : noLate D listed = true)
    (hQ : ∀ c a w, Q (.panic c) (a.put oi.dst v) w → Q (.panic c) a w) (hS : S w) (hT : noLate D listed = true → T w) (hw : Region.wanted oi (yielded ops a.tmps) = true)
    (hy : ∀ w, S w → T w → (execOp a.eval oi).run P w = .ok (.value v) w)
    (h : wpAnyD P md ops Q S T D fuel (listed.setIfInBounds i true) (a.put oi.dst v) w) : wpAnyD P md ops Q S T D (fuel + 1) listed a w :=
  wpAnyD_first true hi hiD (Region.noSelect_spec hs) hQ fuel listed a w (Region.free_spec hi hf) (fun _ _ _ ho hun hd => lateWait_spec hl hd hun ho) (fun _ => hn) (by simpa using hr) (.inl ⟨hw, fun w hw => hy w hw.1 (hw.2 rfl)⟩) hS hT h

/-- An operation whose guard is not met is passed over. -/
theorem take_no (i : Nat) {oi : Oper} {fuel : Nat} {listed : Array Bool} {a : Act} {w : World} (hi : ops[i]? = some oi) (hiD : D.contains i = false)
    (hs : Region.noSelect ops = true) (hf : Region.free md ops listed i = true) (hr : (Region.ready md ops listed).contains i = true)
    (hQ : ∀ c a w, Q (.panic c) (a.put oi.dst undef) w → Q (.panic c) a w) (hS : S w) (hT : noLate D listed = true → T w) (hw : Region.wanted oi (yielded ops a.tmps) = false)
    (h : wpAnyD P md ops Q S T D fuel (listed.setIfInBounds i true) (a.put oi.dst undef) w) : wpAnyD P md ops Q S T D (fuel + 1) listed a w :=
  wpAnyD_first false hi hiD (Region.noSelect_spec hs) hQ fuel listed a w (Region.free_spec hi hf) (fun h => absurd h (by decide)) (fun h => absurd h (by decide)) (by simpa using hr) (.inr ⟨hw, rfl⟩) hS hT h

/-- A proposition that the walk does not look into. -/
def Kept (p : Prop) : Prop := p
theorem Kept.out {p : Prop} (h : Kept p) : p := h

/-- Number i alone may come up. -/
theorem one_D (i : Nat) {oi : Oper} {fuel : Nat} {listed : Array Bool} {a : Act} {w : World} (hi : ops[i]? = some oi) (hr : Region.ready md ops listed = [i])
    (h : ∀ K : Act → World → Prop, Kept (∀ a w, S w → (noLate D (listed.setIfInBounds i true) = true → T w) → wpAnyD P md ops Q S T D fuel (listed.setIfInBounds i true) a w → K a w) → if Region.wanted oi (yielded ops a.tmps) = true then Oper.wp P oi a w K Q else K (a.put oi.dst undef) w) :
    wpAnyD P md ops Q S T D (fuel + 1) listed a w := by
  refine ⟨fun h0 => (by rw [h0] at hr; cases hr), fun j hj => ?_⟩
  rw [hr] at hj
  obtain rfl : j = i := by simpa using hj
  exact wpOp_step hi fun K hK => h K fun a w hS hT hW => hK a w ⟨⟨hS, hT⟩, hW⟩

theorem done_D {listed : Array Bool} {a : Act} {w : World} (hr : Region.ready md ops listed = []) (h : Q .normal a w) : ∀ fuel, wpAnyD P md ops Q S T D fuel listed a w
  | 0 => ⟨hr, h⟩
  | _ + 1 => ⟨fun _ => h, by rw [hr]; simp⟩

/-- The beginning. -/
theorem begin_D (D : List Nat) {id : Nat} {a : Act} {w : World} (hm : P.follows .mixedOrders = true) (_ : S w.drew) (_ : noLate D (Array.replicate ops.size false) = true → T w.drew)
    (h : wpAnyD P .any ops Q S T D ops.size (Array.replicate ops.size false) a w.drew) : (Code.region id ops true).wp P Q a w :=
  wp_region_any hm (wpAny_of_D _ _ _ _ h)
end

/-- Cells that hold these values. -/
def Hold0 (_ : World) : Prop := True
def Hold1 (a : Nat × Nat × Value) (w : World) : Prop := w.cell? ⟨a.1, a.2.1, none⟩ = some a.2.2
def Hold2 (a b : Nat × Nat × Value) (w : World) : Prop := Hold1 a w ∧ Hold1 b w
def Holds : List (Nat × Nat × Value) → World → Prop
  | [], _ => True
  | a :: l, w => Hold1 a w ∧ Holds l w
def Hold3 (a b c : Nat × Nat × Value) (w : World) : Prop := Hold1 a w ∧ Hold1 b w ∧ Hold1 c w
end Go.Proofs.Ytgmlgdfgooacbaa
