/-
  LogsKeeps: the walk.
-/
import Derived.Test.YtmoifhoncanjjaaWakes
import Derived.Test.YtmoifhoncanjjaaAll
import Derived.BigQuiet
import Derived.Deep.QuietTactic
import Derived.WalkSmall
namespace Go.Proofs.Ytmoifhoncanjjaa
open Go.RowKit
set_option linter.unusedSimpArgs false
set_option linter.unusedVariables false

theorem At_Get' {W0 w : World} {b j : Nat} {m op : Int} {es : List Ent} {e : Ent} (h : At W0 w b m es) (ok : LogOk m es) (hj : es[j]? = some e) (hop : op = m + j + 1) :
    Calls Try.prog 14 #[.pointer (some ⟨b, 0, none⟩), .int .u64 op] w fun x w' => ∃ p c, x = .returned (.tuple #[entVal e (.slice p e.cmd.length c), .int .i64 0]) ∧
      w'.ownsRow w.heap.size 5 1 (.slice p e.cmd.length c) e.cmd.length (bcells e.cmd) ∧ Below w.heap.size w w' := by
  obtain ⟨hlt, rfl⟩ := List.getElem?_eq_some_iff.1 hj
  subst hop
  refine (At_Get h ok hlt).mono ?_
  rintro x w' ⟨p, c, rfl, ho, hX, -⟩
  exact ⟨p, c, rfl, ho, hX⟩

theorem At_From' {W0 w : World} {b : Nat} {m op : Int} {es : List Ent} (h : At W0 w b m es) (ok : LogOk m es) (hop : op = m) :
    Calls Try.prog 16 #[.pointer (some ⟨b, 0, none⟩), .int .u64 op] w fun x w' => ∃ p c, x = .returned (.tuple #[.slice p es.length c, .int .i64 0]) ∧
      EntsOwn w' w.heap.size (.slice p es.length c) es ∧ Below w.heap.size w w' := by
  subst hop
  have hh := At_From (k := 0) h ok (Nat.zero_le _)
  rw [show op + ((0 : Nat) : Int) = op from by omega, List.drop_zero] at hh
  refine hh.mono ?_
  rintro x w' ⟨p, c, rfl, ho, hX, -⟩
  exact ⟨p, c, rfl, ho, hX⟩

/-- Three logs that live apart: the log, the one that was cut, the one that was trimmed. -/
def Three (W0 w : World) (l a b : Nat) (m : Int) (es : List Ent) (K T : Nat) : Prop := At W0 w l m es ∧ At W0 w a (m + K) (es.drop K) ∧ At W0 w b m (es.take T)
theorem Three.below {W0 w w' : World} {l a b : Nat} {m : Int} {es : List Ent} {K T : Nat} (h : Three W0 w l a b m es K T) (hX : Below w.heap.size w w') : Three W0 w' l a b m es K T :=
  ⟨h.1.below hX, h.2.1.below hX, h.2.2.below hX⟩

/-- The logs l, a, b, of which a and b are copies. -/
structure Apart (W0 w0 w1 w : World) (l a b : Nat) (m : Int) (es : List Ent) (m' : Int) (es' : List Ent) : Prop where
  wl : ∃ S, LogAt w S l m es ∧ (∀ j, S j → j < w0.heap.size)
  wa : ∃ S, LogAt w S a m' es' ∧ (∀ j, S j → j < w.heap.size ∧ j ≠ b)
  wb : ∃ S, LogAt w S b m es ∧ (∀ j, S j → w1.heap.size ≤ j ∧ j < b)
  la : l < w0.heap.size
  hl : W0.heap.size ≤ l
  ha : w0.heap.size ≤ a ∧ a < w1.heap.size
  hb : w1.heap.size ≤ b ∧ b < w.heap.size
  x0 : Below W0.heap.size W0 w

theorem Apart.mk' {W0 w0 w1 w : World} {l a b : Nat} {m : Int} {es : List Ent} (hl : At W0 w0 l m es) (ha : NewLog w0 a m es w1) (hb : NewLog w1 b m es w) : Apart W0 w0 w1 w l a b m es m es := by
  obtain ⟨⟨S, hL, hS⟩, h1, h2⟩ := hl
  obtain ⟨hA, ha1, ha2, hX1⟩ := ha
  obtain ⟨hB, hb1, hb2, hX2⟩ := hb
  have hlz : l < w0.heap.size := by obtain ⟨p, c, hB, -⟩ := hL; exact hB.lt
  exact ⟨⟨S, (hL.below hX1).below hX2, hS⟩, ⟨_, hA.below hX2, fun j hj => by have := hX2.size; omega⟩, ⟨_, hB, fun j hj => hj⟩, hlz, h1, ⟨ha1, ha2⟩, ⟨hb1, hb2⟩, (h2.trans (hX1.mono h2.size)).trans (hX2.mono (by have := hX1.size; have := h2.size; omega))⟩

theorem Apart.below {W0 w0 w1 w w' : World} {l a b : Nat} {m m' : Int} {es es' : List Ent} (h : Apart W0 w0 w1 w l a b m es m' es') (hX : Below w.heap.size w w') : Apart W0 w0 w1 w' l a b m es m' es' := by
  obtain ⟨⟨Sl, hL, hSl⟩, ⟨Sa, hA, hSa⟩, ⟨Sb, hB, hSb⟩, la, hl, ha, hb, x0⟩ := h
  have hz := hX.size
  exact ⟨⟨Sl, hL.below hX, hSl⟩, ⟨Sa, hA.below hX, fun j hj => by have := hSa j hj; omega⟩, ⟨Sb, hB.below hX, hSb⟩, la, hl, ha, by omega, x0.trans (hX.mono x0.size)⟩

/-- The copy a is cut. -/
theorem Apart.cut {W0 w0 w1 w : World} {l a b K : Nat} {m : Int} {es : List Ent} (h : Apart W0 w0 w1 w l a b m es m es) (ok : LogOk m es) (hK : K ≤ es.length) :
    Calls Try.prog 11 #[.pointer (some ⟨a, 0, none⟩), .int .u64 (m + K)] w fun x w' => x = .returned (.int .i64 0) ∧ Apart W0 w0 w1 w' l a b m es (m + K) (es.drop K) := by
  obtain ⟨⟨Sl, hL, hSl⟩, ⟨Sa, hA, hSa⟩, ⟨Sb, hB, hSb⟩, la, hl, ha, hb, x0⟩ := h
  refine (log_Cut hA ok hK (fun j hj => (hSa j hj).1)).mono ?_
  rintro x w' ⟨rfl, hA', hX⟩
  refine ⟨rfl, ⟨⟨Sl, hL.ext hX (fun j hj _ => by have := hSl j hj; omega) (by omega), hSl⟩, ⟨_, hA', ?_⟩, ⟨Sb, hB.ext hX (fun j hj _ => by have := hSb j hj; omega) (by omega), hSb⟩, la, hl, ha, ⟨hb.1, Nat.lt_of_lt_of_le hb.2 hX.size⟩, Below.ext x0 hX (by omega)⟩⟩
  rintro j (hj | hj)
  · have := hSa j hj.1; have := hX.size; omega
  · omega

/-- The copy b is trimmed. -/
theorem Apart.trim {W0 w0 w1 w : World} {l a b K T : Nat} {m : Int} {es : List Ent} (h : Apart W0 w0 w1 w l a b m es (m + K) (es.drop K)) (ok : LogOk m es) (hT : T ≤ es.length) :
    Calls Try.prog 12 #[.pointer (some ⟨b, 0, none⟩), .int .u64 (m + T)] w fun x w' => x = .returned (.int .i64 0) ∧ Three W0 w' l a b m es K T := by
  obtain ⟨⟨Sl, hL, hSl⟩, ⟨Sa, hA, hSa⟩, ⟨Sb, hB, hSb⟩, la, hl, ha, hb, x0⟩ := h
  have hwb : b < w.heap.size := hb.2
  refine (log_Trim hB ok hT (fun j hj => by have := hSb j hj; omega)).mono ?_
  rintro x w' ⟨rfl, hB', hX⟩
  have hz := hX.size
  have hx := Below.ext x0 hX (by omega)
  have hw0 : w0.heap.size ≤ w1.heap.size := by omega
  refine ⟨rfl, ⟨⟨Sl, hL.ext hX (fun j hj _ => by have := hSl j hj; omega) (by omega), fun j hj => by have := hSl j hj; omega⟩, hl, hx⟩, ⟨⟨Sa, hA.ext hX (fun j hj _ => (hSa j hj).2) (by omega), fun j hj => by have := hSa j hj; omega⟩, by omega, hx⟩, ⟨⟨_, hB', More.lt hz⟩, by omega, hx⟩⟩

theorem Ok.cut {m : Int} {es : List Ent} {K : Nat} (ok : LogOk m es) (hK : K ≤ 64) (hm : m ≤ 1099511627776) : LogOk (m + K) (es.drop K) :=
  ⟨ok.fits.drop K, by rw [List.length_drop]; have := ok.len; omega, by have := ok.low; omega, by omega⟩
theorem Ok.trim {m : Int} {es : List Ent} {T : Nat} (ok : LogOk m es) : LogOk m (es.take T) :=
  ⟨ok.fits.take T, by rw [List.length_take]; have := ok.len; omega, ok.low, ok.high⟩

end Go.Proofs.Ytmoifhoncanjjaa
