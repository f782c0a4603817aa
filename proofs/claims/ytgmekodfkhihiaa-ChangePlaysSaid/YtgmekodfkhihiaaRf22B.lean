/-
  ChangePlays: the document's change in memory; the contracts of New, Start, Told, Hand. (Printed by wip/gen_rfb22.py.)
-/
import Derived.Test.YtgmekodfkhihiaaRf22A
namespace Go.Proofs.Ytgmekodfkhihiaa
open Go.RowKit Go.Maps
set_option linter.unusedSimpArgs false
set_option linter.unusedVariables false

def HdR (w : World) (A : Nat → Prop) (c : List Value) (x : Nat × Pk) : Prop := ∃ s, c = [.int .i64 (x.1 : Int), .int .u64 x.2.l, .int .u64 x.2.b, .int .u64 x.2.c, s] ∧ EntsRd w A s x.2.es
theorem infoI3 : (Try.prog.info? 3).map (fun i => (i.zero, i.size, i.bytes)) = some (some (.int .i64 0), 1, 8) := by kernel_rfl
theorem infoHd : (Try.prog.info? 93).map (fun i => (i.zero, i.size, i.bytes)) = some (some (.agg #[.int .i64 0, .int .u64 0, .int .u64 0, .int .u64 0, .slice none 0 0]), 5, 56) := by kernel_rfl
/-- The document's change at block b; its own blocks in R; the packs' entries in A. -/
structure RIn (w : World) (R A : Nat → Prop) (b : Nat) (n me v : Int) (tell : List Nat) (l : List (Nat × Pk)) (tp : Option Addr) (tc : Nat) (lp : Option Addr) (lc : Nat) : Prop where
  kb : Blk w b 60 #[.int .i64 n, .int .i64 me, .int .u64 v, .slice tp tell.length tc, .slice lp l.length lc]
  ht : w.ownsRow 0 3 1 (.slice tp tell.length tc) tell.length (icells tell)
  hl : ∃ cs, w.ownsRow 0 93 5 (.slice lp l.length lc) l.length cs ∧ Els (HdR w A) 5 cs l
  rt : ∀ k, (Value.slice tp tell.length tc).ownBlock = some k → R k
  rl : ∀ k, (Value.slice lp l.length lc).ownBlock = some k → R k
  rb : R b
  lt : ∀ j, R j → j < w.heap.size
def RCh (w : World) (R A : Nat → Prop) (b : Nat) (n me v : Int) (tell : List Nat) (l : List (Nat × Pk)) : Prop := ∃ tp tc lp lc, RIn w R A b n me v tell l tp tc lp lc
theorem Blk.c5 {w : World} {g : Nat} {t : TypeId} {a b c d e : Value} (h : Blk w g t #[a, b, c, d, e]) : w.cell? ⟨g, 0, none⟩ = some a ∧ w.cell? ⟨g, 1, none⟩ = some b ∧ w.cell? ⟨g, 2, none⟩ = some c ∧ w.cell? ⟨g, 3, none⟩ = some d ∧ w.cell? ⟨g, 4, none⟩ = some e ∧ (∀ i, w.frozen? ⟨g, i, none⟩ = false) ∧ g < w.heap.size :=
  ⟨h.cell 0, h.cell 1, h.cell 2, h.cell 3, h.cell 4, fun i => h.frozen i, h.lt⟩
section
variable {w w' : World} {R R' A : Nat → Prop} {b : Nat} {n me v : Int} {tell : List Nat} {l : List (Nat × Pk)} {tp lp : Option Addr} {tc lc : Nat}
theorem Hds.keep {cs : List Value} (h : Els (HdR w A) 5 cs l) (hA : ∀ k, k < w.heap.size → A k → w'.heap[k]? = w.heap[k]?) : Els (HdR w' A) 5 cs l :=
  h.imp fun c x _ ⟨s, h1, h2⟩ => ⟨s, h1, h2.keep hA (fun _ h _ => h)⟩
theorem RIn.keep (H : RIn w R A b n me v tell l tp tc lp lc) (hz : w.heap.size ≤ w'.heap.size) (hR : ∀ k, R k → w'.heap[k]? = w.heap[k]?) (hA : ∀ k, k < w.heap.size → A k → w'.heap[k]? = w.heap[k]?) : RIn w' R A b n me v tell l tp tc lp lc := by
  obtain ⟨cs, ho, hE⟩ := H.hl
  exact ⟨(hR b H.rb).trans H.kb, own_keep H.ht (fun k _ _ e => hR k (H.rt k e)), ⟨cs, own_keep ho (fun k _ _ e => hR k (H.rl k e)), Hds.keep hE hA⟩, H.rt, H.rl, H.rb, fun j hj => Nat.lt_of_lt_of_le (H.lt j hj) hz⟩
theorem RIn.below (H : RIn w R A b n me v tell l tp tc lp lc) (hb : Below w.heap.size w w') : RIn w' R A b n me v tell l tp tc lp lc :=
  H.keep hb.size (fun k hk => hb.block k (H.lt k hk)) (fun k hk _ => hb.block k hk)
theorem RCh.below (H : RCh w R A b n me v tell l) (hb : Below w.heap.size w w') : RCh w' R A b n me v tell l := by
  obtain ⟨tp, tc, lp, lc, h⟩ := H
  exact ⟨tp, tc, lp, lc, h.below hb⟩
theorem RCh.ext {M : Nat → Prop} (H : RCh w R A b n me v tell l) (hE : Ext M w w') (hR : ∀ j, R j → ¬ M j) (hA : ∀ j, A j → ¬ M j) : RCh w' R A b n me v tell l := by
  obtain ⟨tp, tc, lp, lc, h⟩ := H
  exact ⟨tp, tc, lp, lc, h.keep hE.size (fun k hk => hE.block k (h.lt k hk) (hR k hk)) (fun k hk hAk => hE.block k hk (hA k hAk))⟩
theorem RCh.lt (H : RCh w R A b n me v tell l) : (∀ j, R j → j < w.heap.size) ∧ R b := by
  obtain ⟨tp, tc, lp, lc, h⟩ := H
  exact ⟨h.lt, h.rb⟩
theorem RIn.weak (H : RIn w R A b n me v tell l tp tc lp lc) (hR : ∀ j, R j → R' j) (hl : ∀ j, R' j → j < w.heap.size) : RIn w R' A b n me v tell l tp tc lp lc :=
  ⟨H.kb, H.ht, H.hl, fun k e => hR k (H.rt k e), fun k e => hR k (H.rl k e), hR b H.rb, hl⟩

/-! New -/
theorem rf_New {A : Nat → Prop} {n me : Int} (hk : NumOk n me) :
    Calls Try.prog 17 #[.int .i64 n, .int .i64 me] w fun x w' => x = .returned (.tuple #[.pointer (some ⟨w.heap.size, 0, none⟩), .int .i64 0]) ∧ RCh w' (fun j => j = w.heap.size) A w.heap.size n me 0 [] [] ∧ Below w.heap.size w w' := by
  obtain ⟨hn, m0, m1⟩ := hk
  have d1 : decide (me < 0) = false := by simp; omega
  have d2 : decide (n ≤ me) = false := by simp; omega
  have d3 : decide (n % 2 = 0) = false := by simp; omega
  have d4 : (n % 2 == 0) = false := by simp; omega
  have d5 : decide (n < 1) = false := by simp; omega
  have d6 : decide (7 < n) = false := by simp; omega
  have hn1 : 1 ≤ n := by omega
  have hn2 : n ≤ 7 := by omega
  have hn3 : 0 ≤ n := by omega
  have d7 : (n.tmod 2 == 0) = false := by rw [Int.tmod_eq_emod_of_nonneg hn3]; exact d4
  clear hn
  go_enter Try.func17, Try.ntmps17
  go_wp2_with fail
  go_ret2
  refine ⟨rfl, ⟨none, 0, none, 0, Blk.new w _ _, World.ownsRow_nil _ _ _ _, ⟨[], World.ownsRow_nil _ _ _ _, Els.nil _ _⟩, fun k e => (by cases e), fun k e => (by cases e), rfl, fun j hj => by subst hj; simp⟩, (Below.refl _ w).alloc (Nat.le_refl _) _⟩
theorem rf_New_arg {n me : Int} (h : n < 1 ∨ 7 < n ∨ n % 2 = 0 ∨ me < 0 ∨ n ≤ me) :
    Calls Try.prog 17 #[.int .i64 n, .int .i64 me] w fun x w' => x = .returned (.tuple #[.pointer none, .int .i64 1]) ∧ w = w' := by
  by_cases h1 : n < 1
  · have d5 : decide (n < 1) = true := by simpa using h1
    clear h
    go_enter Try.func17, Try.ntmps17
    go_wp2_with fail
    go_ret2
    exact ⟨rfl, rfl⟩
  · have d5 : decide (n < 1) = false := by simpa using h1
    have hn3 : 0 ≤ n := by omega
    by_cases h2 : 7 < n
    · have d6 : decide (7 < n) = true := by simpa using h2
      clear h
      go_enter Try.func17, Try.ntmps17
      go_wp2_with fail
      go_ret2
      exact ⟨rfl, rfl⟩
    · have d6 : decide (7 < n) = false := by simpa using h2
      by_cases h3 : n % 2 = 0
      · have d7 : (n.tmod 2 == 0) = true := by rw [Int.tmod_eq_emod_of_nonneg hn3]; simpa using h3
        have d8 : (n % 2 == 0) = true := by simpa using h3
        clear h h3
        go_enter Try.func17, Try.ntmps17
        go_wp2_with fail
        go_ret2
        exact ⟨rfl, rfl⟩
      · have d7 : (n.tmod 2 == 0) = false := by rw [Int.tmod_eq_emod_of_nonneg hn3]; simpa using h3
        have d8 : (n % 2 == 0) = false := by simpa using h3
        by_cases h4 : me < 0
        · have d1 : decide (me < 0) = true := by simpa using h4
          clear h h3
          go_enter Try.func17, Try.ntmps17
          go_wp2_with fail
          go_ret2
          exact ⟨rfl, rfl⟩
        · have d1 : decide (me < 0) = false := by simpa using h4
          have d2 : decide (n ≤ me) = true := by simp; omega
          clear h h3
          go_enter Try.func17, Try.ntmps17
          go_wp2_with fail
          go_ret2
          exact ⟨rfl, rfl⟩
/-! Start -/
theorem rf_Start_arg {vn : Int} (H : RIn w R A b n me v tell l tp tc lp lc) (hle : vn < v) :
    Calls Try.prog 18 #[.pointer (some ⟨b, 0, none⟩), .int .u64 vn] w fun x w' => x = .returned (.int .i64 1) ∧ w = w' := by
  have hd : decide (vn < v) = true := by simpa using hle
  obtain ⟨a0, a1, a2, a3, a4, ff, hz⟩ := H.kb.c5
  clear H hle
  go_enter Try.func18, Try.ntmps18
  go_wp2_with fail
  go_ret
  exact ⟨rfl, rfl⟩
theorem RIn.setV (H : RIn w R A b n me v tell l tp tc lp lc) (vn : Int) (hA : ∀ j, A j → ¬ R j) : RIn (w.setCell ⟨b, 2, none⟩ (.int .u64 vn)) R A b n me vn tell l tp tc lp lc := by
  obtain ⟨cs, ho, hE⟩ := H.hl
  refine ⟨by simpa using H.kb.set_ 2 (.int .u64 vn), own_set H.ht H.kb (by decide) 2 _, ⟨cs, own_set ho H.kb (by decide) 2 _, Hds.keep hE (fun k hk hAk => Below.heap_setCell w ⟨b, 2, none⟩ _ k (fun e => hA k hAk (by rw [e]; exact H.rb)))⟩, H.rt, H.rl, H.rb, fun j hj => by simpa [World.setCell] using H.lt j hj⟩
theorem rf_Start_same (H : RIn w R A b n me v tell l tp tc lp lc) (hA : ∀ j, A j → ¬ R j) :
    Calls Try.prog 18 #[.pointer (some ⟨b, 0, none⟩), .int .u64 v] w fun x w' => x = .returned (.int .i64 0) ∧ RCh w' R A b n me v tell l ∧ Ext R w w' := by
  obtain ⟨a0, a1, a2, a3, a4, ff, hz⟩ := H.kb.c5
  have f2 := ff 2
  have HN := Lib.hid (H.setV v hA)
  have HE := Lib.hid ((Ext.refl R w).setCell (p := ⟨b, 2, none⟩) (.inl H.rb) (.int .u64 v))
  clear H ff
  go_enter Try.func18, Try.ntmps18
  go_wp2_with fail
  go_ret
  exact ⟨rfl, ⟨tp, tc, lp, lc, HN.out⟩, HE.out⟩
theorem rf_Start_new {vn : Int} (H : RIn w R A b n me v tell l tp tc lp lc) (hv : v < vn) (hA : ∀ j, A j → ¬ R j) :
    Calls Try.prog 18 #[.pointer (some ⟨b, 0, none⟩), .int .u64 vn] w fun x w' => x = .returned (.int .i64 0) ∧ RCh w' R A b n me vn [] [] ∧ Ext R w w' := by
  obtain ⟨a0, a1, a2, a3, a4, ff, hz⟩ := H.kb.c5
  have f2 := ff 2
  have f3 := ff 3
  have f4 := ff 4
  have hd : decide (vn < v) = false := by simp; omega
  have hd2 : decide (v < vn) = true := by simpa using hv
  have HK := Lib.hid (((H.kb.set_ 3 (.slice none 0 0)).set_ 4 (.slice none 0 0)).set_ 2 (.int .u64 vn))
  have HE := Lib.hid ((((Ext.refl R w).setCell (p := ⟨b, 3, none⟩) (.inl H.rb) (.slice none 0 0)).setCell (p := ⟨b, 4, none⟩) (.inl H.rb) (.slice none 0 0)).setCell (p := ⟨b, 2, none⟩) (.inl H.rb) (.int .u64 vn))
  have HR := Lib.hid (And.intro H.rb H.lt)
  clear H ff
  go_enter Try.func18, Try.ntmps18
  go_wp2_with fail
  go_ret
  refine ⟨rfl, ⟨none, 0, none, 0, by simpa using HK.out, World.ownsRow_nil _ _ _ _, ⟨[], World.ownsRow_nil _ _ _ _, Els.nil _ _⟩, fun k e => (by cases e), fun k e => (by cases e), HR.out.1, fun j hj => by have := HR.out.2 j hj; simpa [World.setCell] using this⟩, HE.out⟩
end
end Go.Proofs.Ytgmekodfkhihiaa
