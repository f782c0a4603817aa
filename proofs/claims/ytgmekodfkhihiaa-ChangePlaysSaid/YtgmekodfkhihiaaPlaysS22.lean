/-
  ChangePlays: the calls in memory; what a round keeps beside both changes; rows that are spoilt.
-/
import Derived.Test.YtgmekodfkhihiaaBoth22
import Derived.Test.YtgmekodfkhihiaaOrderS22
import Derived.Laws.AppendOwn
import Derived.Laws.OwnMore
namespace Go.Proofs.Ytgmekodfkhihiaa
open Go.RowKit Go.Maps
set_option linter.unusedSimpArgs false
set_option linter.unusedVariables false

structure Oq where
  what : Int
  ahead : Int
  frm : Int
  p : Pk
def OqR (w : World) (S : Nat → Prop) (c : List Value) (o : Oq) : Prop := ∃ s, c = [.int .i64 o.what, .int .i8 o.ahead, .int .i64 o.frm, .int .u64 o.p.l, .int .u64 o.p.b, .int .u64 o.p.c, s] ∧ EntsRd w S s o.p.es
def OqsRd (w : World) (S : Nat → Prop) (v : Value) (L : List Oq) : Prop := ∃ cs, Rd w S 7 v L.length cs ∧ Els (OqR w S) 7 cs L
def OqOk (o : Oq) : Prop := Fits o.p.es ∧ 0 ≤ o.p.b ∧ 0 ≤ o.p.c ∧ -9223372036854775808 ≤ o.frm ∧ o.frm ≤ 9223372036854775807 ∧ -128 ≤ o.ahead ∧ o.ahead ≤ 127
theorem seven_at {cs : List Value} {k : Nat} {a b c d e f g : Value} (h : (cs.drop k).take 7 = [a, b, c, d, e, f, g]) : cs[k]? = some a ∧ cs[k + 1]? = some b ∧ cs[k + 2]? = some c ∧ cs[k + 3]? = some d ∧ cs[k + 4]? = some e ∧ cs[k + 5]? = some f ∧ cs[k + 6]? = some g := by
  have q : ∀ j, j < 7 → cs[k + j]? = [a, b, c, d, e, f, g][j]? := fun j hj => by rw [← h, List.getElem?_take_of_lt hj, List.getElem?_drop]
  exact ⟨by simpa using q 0 (by omega), by simpa using q 1 (by omega), by simpa using q 2 (by omega), by simpa using q 3 (by omega), by simpa using q 4 (by omega), by simpa using q 5 (by omega), by simpa using q 6 (by omega)⟩
section
variable {w w' W W' : World} {T F : Nat → Prop} {L : List Oq}
theorem OqsRd.keep {S S' : Nat → Prop} {v : Value} (h : OqsRd w S v L) (hk : ∀ k, k < w.heap.size → S k → w'.heap[k]? = w.heap[k]?) (hs : ∀ k, S k → k < w.heap.size → S' k) : OqsRd w' S' v L := by
  obtain ⟨cs, hr, hP⟩ := h
  exact ⟨cs, hr.keep hk hs (by decide), hP.imp fun c o _ ⟨s, h1, h2⟩ => ⟨s, h1, h2.keep hk hs⟩⟩
theorem OqsRd.at_ {p : Option Addr} {d : Nat} (h : OqsRd W T (.slice p L.length d) L) {j : Nat} (hj : j < L.length) : ∃ bk off sp sc, p = some ⟨bk, off, none⟩ ∧ W.cell? ⟨bk, off + j * 7, none⟩ = some (.int .i64 L[j].what) ∧ W.cell? ⟨bk, off + j * 7 + 1, none⟩ = some (.int .i8 L[j].ahead) ∧ W.cell? ⟨bk, off + j * 7 + 2, none⟩ = some (.int .i64 L[j].frm) ∧
    W.cell? ⟨bk, off + j * 7 + 3, none⟩ = some (.int .u64 L[j].p.l) ∧ W.cell? ⟨bk, off + j * 7 + 4, none⟩ = some (.int .u64 L[j].p.b) ∧ W.cell? ⟨bk, off + j * 7 + 5, none⟩ = some (.int .u64 L[j].p.c) ∧ W.cell? ⟨bk, off + j * 7 + 6, none⟩ = some (.slice sp L[j].p.es.length sc) ∧ EntsRd W T (.slice sp L[j].p.es.length sc) L[j].p.es := by
  obtain ⟨cs, hr, hP⟩ := h
  obtain ⟨bk, off, rfl, _, _, hcell⟩ := Rd.addr hr (by omega)
  obtain ⟨s, hs, hq⟩ := hP.2 j L[j] (List.getElem?_eq_getElem hj)
  obtain ⟨e0, e1, e2, e3, e4, e5, e6⟩ := seven_at hs
  obtain ⟨cs', hr', -⟩ := id hq
  obtain ⟨sp, sc, rfl⟩ := Rd.slice hr'
  exact ⟨bk, off, sp, sc, rfl, hcell _ _ e0, hcell _ _ e1, hcell _ _ e2, hcell _ _ e3, hcell _ _ e4, hcell _ _ e5, hcell _ _ e6, hq⟩
theorem Blk.c7 {w : World} {g : Nat} {t : TypeId} {a b c d e f h : Value} (H : Blk w g t #[a, b, c, d, e, f, h]) : w.cell? ⟨g, 0, none⟩ = some a ∧ w.cell? ⟨g, 1, none⟩ = some b ∧ w.cell? ⟨g, 2, none⟩ = some c ∧ w.cell? ⟨g, 3, none⟩ = some d ∧ w.cell? ⟨g, 4, none⟩ = some e ∧ w.cell? ⟨g, 5, none⟩ = some f ∧ w.cell? ⟨g, 6, none⟩ = some h ∧ (∀ i, w.frozen? ⟨g, i, none⟩ = false) :=
  ⟨H.cell 0, H.cell 1, H.cell 2, H.cell 3, H.cell 4, H.cell 5, H.cell 6, fun i => H.frozen i⟩
/-- What a round keeps beside both: the call's own copy. -/
structure Sd (w0 W : World) (T F : Nat → Prop) (A : Nat) (what ahead frm : Int) (P : Pk) (q : Option Addr) (d : Nat) : Prop where
  X : Below w0.heap.size w0 W
  kA : Blk W A 56 #[.int .i64 what, .int .i8 ahead, .int .i64 frm, .int .u64 P.l, .int .u64 P.b, .int .u64 P.c, .slice q P.es.length d]
  q : EntsRd W T (.slice q P.es.length d) P.es
  A : F A ∧ w0.heap.size ≤ A
  T : ∀ j, T j → j < w0.heap.size
section
variable {w0 : World} {A : Nat} {what ahead frm : Int} {P : Pk} {q : Option Addr} {d : Nat}
theorem Sd.ext (H : Sd w0 W T F A what ahead frm P q d) {M : Nat → Prop} (hE : Ext M W W') (hM : ∀ j, M j → w0.heap.size ≤ j ∧ j ≠ A) : Sd w0 W' T F A what ahead frm P q d :=
  ⟨Ext.from H.X hE (fun j hj => (hM j hj).1), H.kA.ext hE (fun hm => (hM A hm).2 rfl), H.q.keep (fun k hk hT => hE.block k hk (fun hm => by have := H.T k hT; have := (hM k hm).1; omega)) (fun _ h _ => h), H.A, H.T⟩
theorem Sd.step (H : Sd w0 W T F A what ahead frm P q d) (hE : Ext (fun j => w0.heap.size ≤ j ∧ ¬ F j) W W') : Sd w0 W' T F A what ahead frm P q d :=
  H.ext hE (fun j hj => ⟨hj.1, fun e => hj.2 (e ▸ H.A.1)⟩)
theorem Sd.below (H : Sd w0 W T F A what ahead frm P q d) (hb : Below W.heap.size W W') : Sd w0 W' T F A what ahead frm P q d :=
  H.ext (Ext.of_below (fun _ => False) hb) (fun _ h => h.elim)
theorem Sd.to {F' : Nat → Prop} (H : Sd w0 W T F A what ahead frm P q d) (hF : ∀ j, F j → F' j) : Sd w0 W T F' A what ahead frm P q d := ⟨H.X, H.kA, H.q, ⟨hF _ H.A.1, H.A.2⟩, H.T⟩
end
/-- A row of entries whose numbers may be turned. -/
def SpQ (w : World) (F : Nat → Prop) (p : Option Addr) (n d : Nat) : Prop := 0 < n → ∃ g cur, p = some ⟨g, 0, none⟩ ∧ F g ∧ n ≤ d ∧ Blk w g 32 cur ∧ ∀ j, j < n → ∃ x : Int, cur[j * 4 + 2]? = some (.int .u64 x)
theorem SpQ.own {lo n d : Nat} {p : Option Addr} {cs : List Value} {es : List Ent} {Q : Value → List UInt8 → Prop} (h : w.ownsRow lo 32 4 (.slice p n d) n cs) (hE : Els (EntR Q) 4 cs es) (hn : n = es.length) : SpQ w (fun j => lo ≤ j ∧ j < w.heap.size) p n d := by
  intro h0
  rcases h.2 with ⟨h1, h2⟩ | ⟨g, cap, cur, h1, hg, hh, hnc, -, hsz, ht⟩
  · omega
  · injection h1 with e1 e2 e3
    subst e1; subst e3
    refine ⟨g, cur, rfl, ⟨hg, (Array.getElem?_eq_some_iff.1 hh).1⟩, hnc, hh, fun j hj => ?_⟩
    obtain ⟨s, hs, -⟩ := hE.2 j (es[j]'(by omega)) (List.getElem?_eq_getElem (by omega))
    obtain ⟨-, -, h2, -⟩ := four_at hs
    refine ⟨(es[j]'(by omega)).r, ?_⟩
    rw [← Array.getElem?_toList, ← h2, ← ht, List.getElem?_take, if_pos (by omega)]
theorem SpQ.ext {p : Option Addr} {n d : Nat} {M F' : Nat → Prop} (h : SpQ w F p n d) (hE : Ext M w w') (hM : ∀ j, F j → ¬ M j) (hF : ∀ j, F j → F' j) : SpQ w' F' p n d := by
  intro h0
  obtain ⟨g, cur, h1, h2, h3, h4, h5⟩ := h h0
  exact ⟨g, cur, h1, hF g h2, h3, h4.ext hE (hM g h2), h5⟩
theorem SpQ.at_ {p : Option Addr} {n d j : Nat} (h : SpQ w F p n d) (hj : j < n) : ∃ g x, p = some ⟨g, 0, none⟩ ∧ F g ∧ n ≤ d ∧ g < w.heap.size ∧ w.cell? ⟨g, j * 4 + 2, none⟩ = some (.int .u64 x) ∧ w.frozen? ⟨g, j * 4 + 2, none⟩ = false := by
  obtain ⟨g, cur, h1, h2, h3, h4, h5⟩ := h (by omega)
  obtain ⟨x, hx⟩ := h5 j hj
  exact ⟨g, x, h1, h2, h3, h4.lt, (h4.cell _).trans hx, h4.frozen _⟩
theorem SpQ.set {g n d i : Nat} {y : Int} (h : SpQ w F (some ⟨g, 0, none⟩) n d) : SpQ (w.setCell ⟨g, i, none⟩ (.int .u64 y)) F (some ⟨g, 0, none⟩) n d := by
  intro h0
  obtain ⟨g', cur, h1, h2, h3, h4, h5⟩ := h h0
  injection h1 with h1
  injection h1 with h1
  subst h1
  refine ⟨g, _, rfl, h2, h3, h4.set_ i _, fun j hj => ?_⟩
  obtain ⟨x, hx⟩ := h5 j hj
  rw [Array.getElem?_setIfInBounds]
  split
  · split
    · exact ⟨y, rfl⟩
    · rename_i h6
      rw [Array.getElem?_eq_none (by omega)] at hx
      cases hx
  · exact ⟨x, hx⟩
theorem run_append_nil_none {P : Program} (t ty e : TypeId) (i : TypeInfo) (size c : Nat) (ht : P.underlying t = some (.slice e)) (hi : P.info? e = some i) :
    (Builtin.append_ #[t, t] ty #[.slice none 0 0, .slice none 0 c]).run P w = .ok (.slice none 0 0) w := by
  simp [Builtin.append_, run_underlying ht, sizeOf, typeInfo, hi, Builtin.lenOf, Builtin.firstCells]
set_option maxRecDepth 100000 in
/-- An append of entries onto nothing: a row of one's own. -/
theorem wpList_append_ents {ops : Array Oper} {rest : List Oper} {o : Oper} {a : Act} {Q : Exit → Act → World → Prop} (hgd : o.guard = none) (s x : Operand)
    (ho : o.op = .call { callee := .builtin .append, args := #[s, x], argTypes := #[33, 33] }) (hs : a.eval s = .slice none 0 0) {es : List Ent} {p : Option Addr} {c : Nat}
    (hx : a.eval x = .slice p es.length c) (hr : EntsRd w T (.slice p es.length c) es) (hT : ∀ j, T j → j < w.heap.size) (hb : es.length ≤ 1000)
    (h : ∀ p' c' w', EntsRd w' (fun j => T j ∨ (w.heap.size ≤ j ∧ j < w'.heap.size)) (.slice p' es.length c') es → SpQ w' (fun j => w.heap.size ≤ j ∧ j < w'.heap.size) p' es.length c' → Below w.heap.size w w' → wpList Try.prog ops Q rest (a.put o.dst (.slice p' es.length c')) w') : wpList Try.prog ops Q (o :: rest) a w := by
  obtain ⟨i0, hi, hz0, hz1, hz2⟩ := info_parts infoE
  obtain ⟨cs, hrd, hE⟩ := hr
  cases p with
  | none =>
    have hn : es = [] := by
      rcases Nat.eq_zero_or_pos es.length with h0 | h0
      · exact List.eq_nil_of_length_eq_zero h0
      · obtain ⟨b, off, h', _⟩ := Rd.addr hrd h0; cases h'
    subst hn
    have hk := h none 0 w ((nil_rd4 w).keep (fun _ _ h => h.elim) (fun _ h _ => h.elim)) (fun h0 => absurd h0 (by simp)) (Below.refl _ w)
    refine wpList_plain hgd fun K hK => ?_
    have hrun := run_append_nil_none (P := Try.prog) (w := w) 33 o.type 32 i0 4 c Try.underlying33 hi
    unfold Oper.wp
    have hx' : a.eval x = .slice none 0 c := hx
    simp [execOp, ho, resolve, invoke, builtin, hs, hx', hrun, Result.andThen]
    exact hK _ _ hk
  | some ad =>
    refine wpList_append_own w hgd s x 33 ho w.heap.size 32 i0 _ 4 48 Try.underlying33 hi hz0 hz1 hz2 rfl (by decide) (.slice none 0 0) 0 [] hs (World.ownsRow_nil _ _ _ _) ad es.length c cs hx hrd.len ?_ (hE.one (fun c x hc => hc.one (fun s b h => CmdRd.one s b h)) (by decide)) (by unfold maxLen; omega) (by omega) (Nat.le_refl _) ?_
    · intro j u hu
      have hj : j < cs.length := (List.getElem?_eq_some_iff.1 hu).1
      have := hrd.len
      obtain ⟨b, off, he, _, _, hc⟩ := Rd.addr hrd (by omega)
      injection he with he
      subst he
      have := hc j u hu
      rw [show (⟨b, off, none⟩ : Addr).add j = ⟨b, off + j, none⟩ from by unfold Addr.add; split <;> simp_all]
      exact this
    · intro v' w' hown hgrow _
      rw [Nat.zero_add, List.nil_append] at hown
      obtain ⟨p', c', rfl⟩ := own_slice hown
      have hbl : Below w.heap.size w w' := (Below.refl _ w).grown hgrow (by simp) (by intro k hk; simp [Value.ownBlock] at hk)
      have hE' : Els (EntR (CmdRd w' (fun j => T j ∨ (w.heap.size ≤ j ∧ j < w'.heap.size)))) 4 cs es := hE.imp fun c e _ ⟨s, h1, h2⟩ => ⟨s, h1, Rd.keep h2 (fun k hk _ => hbl.block k hk) (fun k hk _ => .inl hk) (by decide)⟩
      exact h p' c' w' ⟨cs, (Rd.of_own hown).keep (fun _ _ _ => rfl) (fun k hk _ => .inr hk) (by decide), hE'⟩ (SpQ.own hown hE' rfl) hbl
end
/-! Primary, at any number -/
theorem ch_PrimaryA {w : World} {n v : Int} (h1 : n ≤ 9223372036854775807) (hv0 : 0 ≤ v) (hv1 : v < 18446744073709551616) :
    Calls Try.prog 25 #[.int .u64 v, .int .i64 n] w fun x w' => x = .returned (.int .i64 (if n < 1 then 0 else v % n)) ∧ w = w' := by
  by_cases h0 : n < 1
  · rw [if_pos h0]
    exact ch_Primary_none h0
  · rw [if_neg h0]
    have d : decide (n < 1) = false := by simp; omega
    have hm0 := Int.emod_nonneg v (show n ≠ 0 by omega)
    have hm1 := Int.emod_lt_of_pos v (show 0 < n by omega)
    go_enter Try.func25, Try.ntmps25
    go_wp2_with fail
    go_ret
    exact ⟨rfl, rfl⟩
theorem rf_PrimaryA {w : World} {n v : Int} (h1 : n ≤ 9223372036854775807) (hv0 : 0 ≤ v) (hv1 : v < 18446744073709551616) :
    Calls Try.prog 26 #[.int .u64 v, .int .i64 n] w fun x w' => x = .returned (.int .i64 (if n < 1 then 0 else v % n)) ∧ w = w' := by
  by_cases h0 : n < 1
  · rw [if_pos h0]
    exact rf_Primary_none h0
  · rw [if_neg h0]
    have d : decide (n < 1) = false := by simp; omega
    have hm0 := Int.emod_nonneg v (show n ≠ 0 by omega)
    have hm1 := Int.emod_lt_of_pos v (show 0 < n by omega)
    go_enter Try.func26, Try.ntmps26
    go_wp2_with fail
    go_ret
    exact ⟨rfl, rfl⟩
end Go.Proofs.Ytgmekodfkhihiaa
