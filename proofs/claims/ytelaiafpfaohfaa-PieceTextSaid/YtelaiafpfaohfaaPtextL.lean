/-
  A table beside a plain row in memory: what each call of a law leaves. Plain theorems over memory.
-/
import Derived.Test.YtelaiafpfaohfaaDelC
import Derived.Test.YtelaiafpfaohfaaFlat
namespace Go.Proofs.Ytelaiafpfaohfaa
open Go.RowKit
set_option linter.unusedSimpArgs false
set_option linter.unusedVariables false

def QT (n0 b : Nat) (rv : Value) : Nat → Prop := fun j => n0 ≤ j ∧ j ≠ b ∧ rv.ownBlock ≠ some j
structure Tx (n0 : Nat) (w : World) (b : Nat) (rv : Value) (t : Tb) (N : Nat) : Prop where
  hb : n0 ≤ b
  nb : rv.ownBlock ≠ some b
  tb : TbAt w (QT n0 b rv) b t
  row : CharOwn w n0 rv t.text
  ok : t.Ok N
  n0 : n0 ≤ w.heap.size
section
variable {n0 b N : Nat} {w w' : World} {t : Tb} {rv : Value}
theorem QT.nb (n0 b : Nat) (rv : Value) : ¬ QT n0 b rv b := fun h => h.2.1 rfl
theorem Tx.below (h : Tx n0 w b rv t N) (hX : Below w.heap.size w w') : Tx n0 w' b rv t N :=
  ⟨h.hb, h.nb, h.tb.below hX, own_below h.row hX, h.ok, Nat.le_trans h.n0 hX.size⟩
theorem Tx.mono (h : Tx n0 w b rv t N) {M : Nat} (hM : N ≤ M) : Tx n0 w b rv t M := ⟨h.hb, h.nb, h.tb, h.row, h.ok.mono hM, h.n0⟩
theorem Tx.keep {w1 : World} (h : Tx n0 w b rv t N) (hE : Ext (fun j => j = b) w w1) : CharOwn w1 n0 rv t.text := own_keep h.row fun j hj hl hv => hE.block j hl (fun e => h.nb (by rw [← e]; exact hv))
theorem Tx.did {w1 w2 : World} {rv' : Value} {t' : Tb} {N' : Nat} (h : Tx n0 w b rv t N) (htb : TbAt w1 (NewOr (QT n0 b rv) w) b t') (hE : Ext (fun j => j = b) w w1) (hrow : CharOwn w2 n0 rv' t'.text) (hE2 : Ext (fun j => rv.ownBlock = some j) w1 w2)
    (hblk : rv'.ownBlock = rv.ownBlock ∨ rv'.ownBlock = some w1.heap.size) (hok : t'.Ok N') : Tx n0 w2 b rv' t' N' := by
  have l1 := h.tb.lt
  have z1 := hE.size
  have z2 := hE2.size
  have hn := h.n0
  have hrl : ∀ j, rv.ownBlock = some j → j < w.heap.size := fun j hj => (h.row.lt j hj).2
  have k1 : TbAt w1 (fun j => QT n0 b rv j ∧ j < w1.heap.size) b t' := htb.weak (by
    rintro j (hj | hj) hl
    · exact ⟨hj, hl⟩
    · exact ⟨⟨by omega, by omega, fun e => by have := hrl j e; omega⟩, hl⟩)
  refine ⟨h.hb, ?_, (k1.ext hE2 (fun j hj he => hj.1.2.2 he) h.nb).weak (fun j hj _ => ⟨hj.1.1, hj.1.2.1, ?_⟩), hrow, hok, by omega⟩
  · rcases hblk with e | e
    · rw [e]; exact h.nb
    · rw [e]; intro e2; injection e2 with e2; omega
  · rcases hblk with e | e
    · rw [e]; exact hj.1.2.2
    · rw [e]; intro e2; injection e2 with e2; have := hj.2; omega
theorem Tx.same {w1 : World} {t' : Tb} {N' : Nat} (h : Tx n0 w b rv t N) (htb : TbAt w1 (NewOr (QT n0 b rv) w) b t') (hE : Ext (fun j => j = b) w w1) (htx : t'.text = t.text) (hok : t'.Ok N') : Tx n0 w1 b rv t' N' :=
  h.did htb hE (by rw [htx]; exact h.keep hE) (Ext.refl _ _) (.inl rfl) hok
theorem Tx.new {w1 w2 : World} {l : List Int} (hb : w.heap.size ≤ b) (h : TbAt w1 (fun k => w.heap.size ≤ k ∧ k ≠ b) b (Tb.new l)) (hX : Below w.heap.size w w1) (ho : CharOwn w2 w1.heap.size rv l) (hX2 : Below w1.heap.size w1 w2) (hok : (Tb.new l).Ok N) : Tx w.heap.size w2 b rv (Tb.new l) N := by
  have l1 := h.lt
  have hr : ∀ j, j < w1.heap.size → rv.ownBlock ≠ some j := fun j hj e => by have := (ho.lt j e).1; omega
  exact ⟨hb, hr b l1, (h.weak (S' := QT w.heap.size b rv) fun j hj hl => ⟨hj.1, hj.2, hr j hl⟩).below hX2, by rw [Tb.new_text]; exact own_base ho hX.size, hok, Nat.le_trans hX.size hX2.size⟩
end
namespace Tb
variable {t : Tb} {n : Nat}
theorem ins_pcs (t : Tb) (pos : Int) (l : List Int) : (t.ins pos l).2.ps.length ≤ t.ps.length + 2 := by
  unfold ins
  split
  · split
    · exact Nat.le_add_right _ _
    · exact insertL_len _ _ _ _
  · exact Nat.le_add_right _ _
theorem del_pcs (h : t.Ok n) (pos m : Int) : (t.del pos m).2.ps.length ≤ t.ps.length + 1 := by
  unfold del
  split
  · rename_i hi
    obtain ⟨p, k, rfl, rfl, hk⟩ := inText_iff.1 hi
    split
    · exact Nat.le_add_right _ _
    · exact deleteL_len h.lens (by omega)
  · exact Nat.le_add_right _ _
end Tb
end Go.Proofs.Ytelaiafpfaohfaa
