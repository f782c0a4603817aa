/-
  Both tables side by side in memory: what each call of a law leaves. Plain theorems over memory.
-/
import Derived.Test.YtelaiafpfaohfaaFlat
import Derived.Test.YtelaiafpfaohfaaRefS
import Derived.Test.YtelaiafpfaohfaaActs
namespace Go.Proofs.Ytelaiafpfaohfaa
open Go.RowKit
set_option linter.unusedSimpArgs false
set_option linter.unusedVariables false

def SS (n0 b rb : Nat) : Nat → Prop := fun j => n0 ≤ j ∧ j ≠ b ∧ j ≠ rb
/-- .. that stood when the world was this long. -/
def SO (n0 b rb z : Nat) : Nat → Prop := fun j => SS n0 b rb j ∧ j < z
structure St (n0 : Nat) (w : World) (b rb : Nat) (t : Tb) (N : Nat) : Prop where
  hb : n0 ≤ b
  hrb : n0 ≤ rb
  ne : b ≠ rb
  tb : TbAt w (SS n0 b rb) b t
  rf : RfAt w (SS n0 b rb) rb (Rf.of t)
  ok : t.Ok N
  n0 : n0 ≤ w.heap.size
section
variable {n0 b rb N : Nat} {w w' : World} {t : Tb}
theorem St.below (h : St n0 w b rb t N) (hX : Below w.heap.size w w') : St n0 w' b rb t N :=
  ⟨h.hb, h.hrb, h.ne, h.tb.below hX, h.rf.below hX, h.ok, Nat.le_trans h.n0 hX.size⟩
theorem St.tbo (h : St n0 w b rb t N) : TbAt w (SO n0 b rb w.heap.size) b t := h.tb.weak fun _ h1 h2 => ⟨h1, h2⟩
theorem St.rfo (h : St n0 w b rb t N) : RfAt w (SO n0 b rb w.heap.size) rb (Rf.of t) := h.rf.weak fun _ h1 h2 => ⟨h1, h2⟩
theorem SO.nb (n0 b rb z : Nat) : ¬ SO n0 b rb z b := fun h => h.1.2.1 rfl
theorem SO.nrb (n0 b rb z : Nat) : ¬ SO n0 b rb z rb := fun h => h.1.2.2 rfl
theorem St.spoil {w3 w4 : World} {M : Nat → Prop} (h : St n0 w b rb t N) (hX : Below w.heap.size w w3) (hE : Ext M w3 w4) (hM : ∀ j, M j → w.heap.size ≤ j) : St n0 w4 b rb t N := by
  have l1 := h.tb.lt
  have l2 := h.rf.lt
  refine ⟨h.hb, h.hrb, h.ne, ((h.tbo.below hX).ext hE (fun j hj hm => ?_) fun hm => ?_).weak fun j hj _ => hj.1, ((h.rfo.below hX).ext hE (fun j hj hm => ?_) fun hm => ?_).weak fun j hj _ => hj.1, h.ok, Nat.le_trans h.n0 (Nat.le_trans hX.size hE.size)⟩
  · have := hM j hm; have := hj.2; omega
  · have := hM _ hm; omega
  · have := hM j hm; have := hj.2; omega
  · have := hM _ hm; omega
theorem St.does {w1 w2 w3 w4 : World} {M : Nat → Prop} {t' : Tb} {N' : Nat} (h : St n0 w b rb t N) (hX1 : Below w.heap.size w w1) (h2 : TbAt w2 (NewOr (SO n0 b rb w.heap.size) w1) b t') (hE2 : Ext (fun k => k = b) w1 w2)
    (h3 : RfAt w3 (NewOr (SO n0 b rb w.heap.size) w2) rb (Rf.of t')) (hE3 : Ext (fun k => k = rb) w2 w3) (hE4 : Ext M w3 w4) (hM : ∀ j, M j → w.heap.size ≤ j ∧ j < w1.heap.size) (hok : t'.Ok N') : St n0 w4 b rb t' N' := by
  have l1 := h.tb.lt
  have l2 := h.rf.lt
  have z1 := hX1.size
  have z2 := hE2.size
  have z3 := hE3.size
  have z4 := hE4.size
  have hn := h.n0
  have hw : ∀ z, w.heap.size ≤ z → ∀ j, (SO n0 b rb w.heap.size j ∨ z ≤ j) → SS n0 b rb j := by
    rintro z hz j (hj | hj)
    · exact hj.1
    · exact ⟨by omega, by omega, by omega⟩
  have k1 : TbAt w3 (NewOr (SO n0 b rb w.heap.size) w1) b t' := h2.ext hE3 (by
    rintro j (hj | hj) rfl
    · exact hj.1.2.2 rfl
    · omega) h.ne
  refine ⟨h.hb, h.hrb, h.ne, (k1.ext hE4 ?_ fun hm => ?_).weak fun j hj _ => hw _ z1 j hj, (h3.ext hE4 ?_ fun hm => ?_).weak fun j hj _ => hw _ (Nat.le_trans z1 z2) j hj, hok, by omega⟩
  · rintro j (hj | hj) hm
    · have := hM j hm; have := hj.2; omega
    · have := hM j hm; omega
  · have := hM _ hm; omega
  · rintro j (hj | hj) hm
    · have := hM j hm; have := hj.2; omega
    · have := hM j hm; omega
  · have := hM _ hm; omega
theorem St.flat {w1 w2 w3 : World} {rb2 : Nat} (h : St n0 w b rb t N) (h1 : TbAt w1 (fun k => w.heap.size ≤ k) b t.flat) (hE1 : Ext (fun k => k = b) w w1) (hX2 : Below w1.heap.size w1 w2)
    (hrb : w2.heap.size ≤ rb2) (h3 : RfAt w3 (fun k => w2.heap.size ≤ k ∧ k ≠ rb2) rb2 (Rf.new (Rf.of t).text)) (hX3 : Below w2.heap.size w2 w3) : St n0 w3 b rb2 t.flat N := by
  have l1 := h.tb.lt
  have hn := h.n0
  have z1 := hE1.size
  have z2 := hX2.size
  have z3 := hX3.size
  have hlt1 : ∀ {j}, w.heap.size ≤ j → j < w1.heap.size → SS n0 b rb2 j := fun {j} h1 h2 => ⟨by omega, by omega, by omega⟩
  refine ⟨h.hb, by omega, by omega, ((h1.weak (S' := SS n0 b rb2) fun j hj hl => hlt1 hj hl).below hX2).below hX3, ?_, Tb.flat_ok h.ok, by omega⟩
  rw [show Rf.of t.flat = Rf.new (Rf.of t).text from by rw [Rf.text_of]; exact Rf.new_of _]
  exact h3.weak fun j hj hl => ⟨by omega, by omega, hj.2⟩
theorem St.copy {w1 w2 : World} {b2 : Nat} (h : St n0 w b rb t N) (hb2 : w.heap.size ≤ b2) (h1 : TbAt w1 (fun k => w.heap.size ≤ k ∧ k ≠ b2) b2 t) (hX1 : Below w.heap.size w w1) (hE : Ext (fun k => k = b) w1 w2) : St n0 w2 b2 rb t N := by
  have l1 := h.tb.lt
  have l2 := h.rf.lt
  have hn := h.n0
  have z1 := hX1.size
  have z2 := hE.size
  refine ⟨by omega, h.hrb, by omega, ((h1.weak (S' := fun k => w.heap.size ≤ k ∧ k ≠ b2) fun j hj _ => hj).ext hE (fun j hj he => by omega) (by omega)).weak fun j hj _ => ⟨by omega, hj.2, by omega⟩,
    ((h.rfo.below hX1).ext hE (fun j hj he => hj.1.2.1 he) (fun e => h.ne e.symm)).weak fun j hj _ => ⟨hj.1.1, ?_, hj.1.2.2⟩, h.ok, by omega⟩
  have := hj.2
  omega
theorem St.new {w0 w1 w2 w3 w4 : World} {M : Nat → Prop} {tx : List Int} (hX1 : Below w0.heap.size w0 w1) (hb : w1.heap.size ≤ b) (h2 : TbAt w2 (fun k => w1.heap.size ≤ k ∧ k ≠ b) b (Tb.new tx)) (hX2 : Below w1.heap.size w1 w2)
    (hrb : w2.heap.size ≤ rb) (h3 : RfAt w3 (fun k => w2.heap.size ≤ k ∧ k ≠ rb) rb (Rf.new tx)) (hX3 : Below w2.heap.size w2 w3) (hE : Ext M w3 w4) (hM : ∀ j, M j → w0.heap.size ≤ j ∧ j < w1.heap.size) (hok : (Tb.new tx).Ok N) : St w0.heap.size w4 b rb (Tb.new tx) N := by
  have l1 := h2.lt
  have l2 := h3.lt
  have z1 := hX1.size
  have z2 := hX2.size
  have z3 := hX3.size
  have z4 := hE.size
  have hM1 : ∀ j, w1.heap.size ≤ j → ¬ M j := fun j hj hm => by have := hM j hm; omega
  have k2 : TbAt w2 (fun j => SS w0.heap.size b rb j ∧ w1.heap.size ≤ j) b (Tb.new tx) := h2.weak fun j hj hl => ⟨⟨by omega, hj.2, by omega⟩, hj.1⟩
  have k3 : RfAt w3 (fun j => SS w0.heap.size b rb j ∧ w1.heap.size ≤ j) rb (Rf.new tx) := h3.weak fun j hj hl => ⟨⟨by omega, by omega, hj.2⟩, by omega⟩
  refine ⟨by omega, by omega, by omega, ((k2.below hX3).ext hE (fun j hj => hM1 j hj.2) (hM1 b hb)).weak fun j hj _ => hj.1, ?_, hok, by omega⟩
  rw [Rf.new_of]
  exact (k3.ext hE (fun j hj => hM1 j hj.2) (hM1 rb (by omega))).weak fun j hj _ => hj.1
end
end Go.Proofs.Ytelaiafpfaohfaa
