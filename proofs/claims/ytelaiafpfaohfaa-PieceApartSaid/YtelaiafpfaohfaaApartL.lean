/-
  A table and its copy in memory; the law's closure that changes one of them: the contract. No condition but bounds far below what memory bears.
-/
import Derived.Test.YtelaiafpfaohfaaTyped
import Derived.Test.YtelaiafpfaohfaaFlat
import Derived.Test.YtelaiafpfaohfaaRefI
namespace Go.Proofs.Ytelaiafpfaohfaa
open Go.RowKit
set_option linter.unusedSimpArgs false
set_option linter.unusedVariables false

def Qn (n0 A b ub : Nat) : Nat → Prop := fun j => n0 ≤ j ∧ j ≠ b ∧ j ≠ ub ∧ j ≠ A
structure Ap (n0 A : Nat) (w : World) (b ub : Nat) (t : Tb) (N : Nat) : Prop where
  hb : n0 ≤ b
  hub : n0 ≤ ub
  hA : n0 ≤ A
  neb : A ≠ b
  neu : A ≠ ub
  tb : TbAt w (Qn n0 A b ub) b t
  tu : TbAt w (Qn n0 A b ub) ub t
  ok : t.Ok N
  n0 : n0 ≤ w.heap.size
section
variable {n0 A b ub N : Nat} {w w' : World} {t : Tb}
theorem Qn.nb (n0 A b ub : Nat) : ¬ Qn n0 A b ub b := fun h => h.2.1 rfl
theorem Qn.nu (n0 A b ub : Nat) : ¬ Qn n0 A b ub ub := fun h => h.2.2.1 rfl
theorem Ap.below (h : Ap n0 A w b ub t N) (hX : Below w.heap.size w w') : Ap n0 A w' b ub t N :=
  ⟨h.hb, h.hub, h.hA, h.neb, h.neu, h.tb.below hX, h.tu.below hX, h.ok, Nat.le_trans h.n0 hX.size⟩
theorem Ap.mono (h : Ap n0 A w b ub t N) {M : Nat} (hM : N ≤ M) : Ap n0 A w b ub t M :=
  ⟨h.hb, h.hub, h.hA, h.neb, h.neu, h.tb, h.tu, h.ok.mono hM, h.n0⟩
theorem Ap.box (h : Ap n0 A w b ub t N) (o : Obj) : Ap n0 w.heap.size (w.alloc o) b ub t N := by
  have l1 := h.tb.lt
  have l2 := h.tu.lt
  have hX := (Below.refl w.heap.size w).alloc (Nat.le_refl _) o
  exact ⟨h.hb, h.hub, h.n0, by omega, by omega, (h.tb.weak fun j hj hl => ⟨hj.1, hj.2.1, hj.2.2.1, Nat.ne_of_lt hl⟩).below hX, (h.tu.weak fun j hj hl => ⟨hj.1, hj.2.1, hj.2.2.1, Nat.ne_of_lt hl⟩).below hX, h.ok, Nat.le_trans h.n0 hX.size⟩
theorem Ap.set (h : Ap n0 A w b ub t N) (hE : Ext (fun j => j = A) w w') : Ap n0 A w' b ub t N :=
  ⟨h.hb, h.hub, h.hA, h.neb, h.neu, h.tb.ext hE (fun j hj he => hj.2.2.2 he) (fun e => h.neb e.symm), h.tu.ext hE (fun j hj he => hj.2.2.2 he) (fun e => h.neu e.symm), h.ok, Nat.le_trans h.n0 hE.size⟩
theorem Ap.copy {b2 : Nat} (h : Ap n0 A w b ub t N) (hA : A < w.heap.size) (hX : Below w.heap.size w w') (hb2 : w.heap.size ≤ b2) (h2 : TbAt w' (fun k => w.heap.size ≤ k ∧ k ≠ b2) b2 t) : Ap n0 A w' b b2 t N := by
  have l1 := h.tb.lt
  have hn := h.n0
  exact ⟨h.hb, by omega, h.hA, h.neb, by omega, (h.tb.weak fun j hj hl => ⟨hj.1, hj.2.1, by omega, hj.2.2.2⟩).below hX, h2.weak fun j hj hl => ⟨by omega, by omega, hj.2, by omega⟩, h.ok, Nat.le_trans hn hX.size⟩
theorem Ap.other {w4 w6 : World} {ob : Nat} (h : Ap n0 A w b ub t N) (hX : Below w.heap.size w w4) (hob : w.heap.size ≤ ob) (hE : Ext (fun k => k = ob) w4 w6) : Ap n0 A w6 b ub t N := by
  have l1 := h.tb.lt
  have l2 := h.tu.lt
  have k1 : TbAt w (fun j => Qn n0 A b ub j ∧ j < w.heap.size) b t := h.tb.weak fun j hj hl => ⟨hj, hl⟩
  have k2 : TbAt w (fun j => Qn n0 A b ub j ∧ j < w.heap.size) ub t := h.tu.weak fun j hj hl => ⟨hj, hl⟩
  exact ⟨h.hb, h.hub, h.hA, h.neb, h.neu, ((k1.below hX).ext hE (fun j hj he => by have := hj.2; omega) (by omega)).weak fun j hj _ => hj.1, ((k2.below hX).ext hE (fun j hj he => by have := hj.2; omega) (by omega)).weak fun j hj _ => hj.1, h.ok, Nat.le_trans h.n0 (Nat.le_trans hX.size hE.size)⟩
theorem Ap.one {N' : Nat} {t' : Tb} (h : Ap n0 A w b b t N) (hA : A < w.heap.size) (h2 : TbAt w' (NewOr (Qn n0 A b b) w) b t') (hs : w.heap.size ≤ w'.heap.size) (hok : t'.Ok N') : Ap n0 A w' b b t' N' := by
  have l1 := h.tb.lt
  have hn := h.n0
  have k : TbAt w' (Qn n0 A b b) b t' := h2.weak (by
    rintro j (hj | hj) _
    · exact hj
    · exact ⟨by omega, by omega, by omega, by omega⟩)
  exact ⟨h.hb, h.hub, h.hA, h.neb, h.neu, k, k, hok, by omega⟩
theorem Ap.two {w8 : World} {N' : Nat} {t' : Tb} (h : Ap n0 A w b ub t N) (hA : A < w.heap.size) (hne : ub ≠ b) (h2 : TbAt w' (NewOr (Qn n0 A b ub) w) b t') (hs : w.heap.size ≤ w'.heap.size) (h3 : TbAt w8 (NewOr (Qn n0 A b ub) w') ub t') (hE : Ext (fun k => k = ub) w' w8) (hok : t'.Ok N') : Ap n0 A w8 b ub t' N' := by
  have l1 := h.tb.lt
  have l2 := h.tu.lt
  have hn := h.n0
  have hz := hE.size
  have hw : ∀ z, w.heap.size ≤ z → ∀ j, (Qn n0 A b ub j ∨ z ≤ j) → Qn n0 A b ub j := by
    rintro z hz j (hj | hj)
    · exact hj
    · exact ⟨by omega, by omega, by omega, by omega⟩
  exact ⟨h.hb, h.hub, h.hA, h.neb, h.neu, (h2.ext hE (by
    rintro j (hj | hj) rfl
    · exact hj.2.2.1 rfl
    · omega) (fun e => hne e.symm)).weak fun j hj _ => hw _ (Nat.le_refl _) j hj, h3.weak fun j hj _ => hw _ hs j hj, hok, by omega⟩
theorem Ap.new {w1 : World} {l : List Int} (hb : w.heap.size ≤ b) (h : TbAt w1 (fun k => w.heap.size ≤ k ∧ k ≠ b) b (Tb.new l)) (hX : Below w.heap.size w w1) (hok : (Tb.new l).Ok N) : Ap w.heap.size w1.heap.size w1 b b (Tb.new l) N := by
  have l1 := h.lt
  have k : TbAt w1 (Qn w.heap.size w1.heap.size b b) b (Tb.new l) := h.weak fun j hj hl => ⟨hj.1, hj.2, hj.2, by omega⟩
  exact ⟨hb, hb, hX.size, by omega, by omega, k, k, hok, hX.size⟩
end

/-- What the closure does: Delete at 1, Insert else. -/
def doesF (what pos n : Int) (x : List Int) (t : Tb) : Int × Tb := if what = 1 then t.del pos n else t.ins pos x
theorem doesF_ok {what pos n : Int} {x : List Int} {t : Tb} {N : Nat} (h : t.Ok N) : (doesF what pos n x t).2.Ok (N + x.length) := by
  unfold doesF
  split
  · exact (Tb.del_ok h pos n).mono (by omega)
  · exact Tb.ins_ok h pos x
theorem does_any {w : World} {T Sx : Nat → Prop} {A b N : Nat} {t : Tb} {what pos n : Int} {x : List Int} {qa : Option Addr} {da : Nat} (hA : Blk w A 31 #[.int .i64 what, .int .i64 pos, .int .i64 n, .slice qa x.length da]) (h : TbAt w T b t) (hT : ¬ T b) (hok : t.Ok N) (hN : N ≤ 100000)
    (hx : CharRd w Sx (.slice qa x.length da) x) (hxn : NilOk (.slice qa x.length da)) (hl : x.length ≤ 100000) (hp : i64b pos) (hn : i64b n) :
    Calls Try.prog 30 #[.pointer (some ⟨b, 0, none⟩), .pointer (some ⟨A, 0, none⟩)] w (TbDone w T b (doesF what pos n x t)) := by
  obtain ⟨a0, a1, a2, a3, -⟩ := hA.c4
  by_cases hw : what = 1
  · have e : doesF what pos n x t = t.del pos n := if_pos hw
    rw [e]
    have H := Lib.hid (del_all (T := T) h hT hok hN hp hn)
    subst hw
    clear h hx hxn hok hA e hp hn
    go_enter Try.func30, Try.ntmps30
    go_wp2_with fail
    refine H.out.mono ?_
    rintro e w1 ⟨rfl, ht, hE⟩
    have HF := Lib.hid (And.intro ht hE)
    clear ht hE
    go_wp2_with fail
    go_ret
    exact ⟨rfl, HF.out⟩
  · have e : doesF what pos n x t = t.ins pos x := if_neg hw
    rw [e]
    have H := Lib.hid (ins_all (T := T) (pos := pos) h hT hok hN hx hxn hl)
    have hb : (what == (1 : Int)) = false := by simpa using hw
    clear h hx hxn hok hA e hw hp hn
    go_enter Try.func30, Try.ntmps30
    go_wp2_with fail
    refine H.out.mono ?_
    rintro e w1 ⟨rfl, ht, hE⟩
    have HF := Lib.hid (And.intro ht hE)
    clear ht hE
    go_wp2_with fail
    go_ret
    exact ⟨rfl, HF.out⟩
end Go.Proofs.Ytelaiafpfaohfaa
