/-
  What Get and From answer at any op: one contract for each, for a log and for the reference's.
-/
import Derived.Test.YtmoifhoncanjjaaLogNo
import Derived.Test.YtmoifhoncanjjaaRfGet
import Derived.Test.YtmoifhoncanjjaaRfFrom
import Derived.Test.YtmoifhoncanjjaaLogGet
import Derived.Test.YtmoifhoncanjjaaLogFrom
namespace Go.Proofs.Ytmoifhoncanjjaa
open Go.RowKit
set_option linter.unusedSimpArgs false

/-- An op: behind the log, in it, its base, before it. -/
theorem op_cases (m op : Int) (n : Nat) : m + n < op ∨ (∃ k, k < n ∧ op = m + k + 1) ∨ op = m ∨ op < m := by
  by_cases h1 : m + n < op
  · exact .inl h1
  · by_cases h2 : op < m
    · exact .inr (.inr (.inr h2))
    · by_cases h3 : op = m
      · exact .inr (.inr (.inl h3))
      · exact .inr (.inl ⟨(op - m - 1).toNat, by omega, by omega⟩)

def zeroE : Ent := ⟨0, 0, 0, []⟩
def getE (m : Int) (es : List Ent) (op : Int) : Ent := if m < op then (es[(op - m - 1).toNat]?).getD zeroE else zeroE
def getR (m : Int) (n : Nat) (op : Int) : Int := if m + n < op then 6 else if op ≤ m then 32 else 0
def fromL (m : Int) (es : List Ent) (op : Int) : List Ent := if op < m then [] else es.drop (op - m).toNat
theorem getE_none {m op : Int} {es : List Ent} (h : m + es.length < op) : getE m es op = zeroE := by
  unfold getE
  split
  · rw [List.getElem?_eq_none (by omega)]; rfl
  · rfl
theorem getE_some {m : Int} {es : List Ent} {k : Nat} (h : k < es.length) : getE m es (m + k + 1) = es[k] := by
  unfold getE
  rw [if_pos (by omega), show (m + k + 1 - m - 1).toNat = k from by omega, List.getElem?_eq_getElem h]
  rfl
theorem getE_gone {m op : Int} {es : List Ent} (h : op ≤ m) : getE m es op = zeroE := if_neg (by omega)
theorem getR_none {m op : Int} {n : Nat} (h : m + n < op) : getR m n op = 6 := if_pos h
theorem getR_some {m : Int} {n k : Nat} (h : k < n) : getR m n (m + k + 1) = 0 := by unfold getR; rw [if_neg (by omega), if_neg (by omega)]
theorem getR_gone {m op : Int} {n : Nat} (h : op ≤ m) : getR m n op = 32 := by unfold getR; rw [if_neg (by omega), if_pos h]
theorem fromL_none {m op : Int} {es : List Ent} (h : m + es.length < op) : fromL m es op = [] := by
  unfold fromL
  rw [if_neg (by omega), List.drop_eq_nil_of_le (by omega)]
theorem fromL_some {m : Int} {es : List Ent} {k : Nat} : fromL m es (m + k) = es.drop k := by
  unfold fromL
  rw [if_neg (by omega), show (m + k - m).toNat = k from by omega]
theorem fromL_gone {m op : Int} {es : List Ent} (h : op < m) : fromL m es op = [] := if_pos h
theorem withinE_none {m op : Int} {n : Nat} (h : m + n < op) : withinE m n op = 6 := if_pos h
theorem withinE_ok {m : Int} {n k : Nat} (h : k ≤ n) : withinE m n (m + k) = 0 := by unfold withinE; rw [if_neg (by omega), if_neg (by omega)]
theorem withinE_gone {m op : Int} {n : Nat} (h : op < m) : withinE m n op = 32 := by unfold withinE; rw [if_neg (by omega), if_pos h]
theorem Fits.getE {m : Int} {es : List Ent} (h : Fits es) (op : Int) : (getE m es op).cmd.length ≤ 140737488355328 := by
  unfold Proofs.Ytmoifhoncanjjaa.getE
  split
  · cases hx : es[(op - m - 1).toNat]? with
    | none => exact Nat.zero_le _
    | some e => exact h e (List.mem_of_getElem? hx)
  · exact Nat.zero_le _
theorem fromL_len (m : Int) (es : List Ent) (op : Int) : (fromL m es op).length ≤ es.length := by
  unfold fromL
  split
  · exact Nat.zero_le _
  · rw [List.length_drop]; omega
theorem Fits.fromL {m : Int} {es : List Ent} (h : Fits es) (op : Int) : Fits (fromL m es op) := by
  unfold Proofs.Ytmoifhoncanjjaa.fromL
  split
  · intro e he; cases he
  · exact h.drop _

/-- What Get told. -/
def GetSaid (w w' : World) (x : Ending) (e : Ent) (r : Int) : Prop := ∃ p c, x = .returned (.tuple #[entVal e (.slice p e.cmd.length c), .int .i64 r]) ∧ CmdOwn w' w.heap.size (.slice p e.cmd.length c) e.cmd ∧ Below w.heap.size w w'
def FromSaid (w w' : World) (x : Ending) (l : List Ent) (r : Int) : Prop := ∃ p c, x = .returned (.tuple #[.slice p l.length c, .int .i64 r]) ∧ EntsOwn w' w.heap.size (.slice p l.length c) l ∧ Below w.heap.size w w'
theorem GetSaid.zero {w w' : World} {x : Ending} {r : Int} (h : x = .returned (.tuple #[entVal ⟨0, 0, 0, []⟩ (.slice none 0 0), .int .i64 r])) (hb : Below w.heap.size w w') : GetSaid w w' x zeroE r :=
  ⟨none, 0, h, World.ownsRow_nil _ _ _ _, hb⟩
theorem FromSaid.zero {w w' : World} {x : Ending} {r : Int} (h : x = .returned (.tuple #[.slice none 0 0, .int .i64 r])) (hb : Below w.heap.size w w') : FromSaid w w' x [] r :=
  ⟨none, 0, h, ⟨[], World.ownsRow_nil _ _ _ _, Els.nil _ _⟩, hb⟩

theorem log_Get_any {w : World} {S : Nat → Prop} {b : Nat} {m op : Int} {es : List Ent} (hL : LogAt w S b m es) (ok : LogOk m es) :
    Calls Try.prog 14 #[.pointer (some ⟨b, 0, none⟩), .int .u64 op] w fun x w' => GetSaid w w' x (getE m es op) (getR m es.length op) := by
  rcases op_cases m op es.length with h | ⟨k, h, rfl⟩ | h | h
  · rw [getE_none h, getR_none h]
    exact (log_Get_none hL ok h).mono fun x w' ⟨h1, h2⟩ => .zero h1 h2
  · rw [getE_some h, getR_some h]
    exact log_Get hL ok h
  · rw [getE_gone (by omega), getR_gone (by omega)]
    exact (log_Get_gone hL ok (by omega)).mono fun x w' ⟨h1, h2⟩ => .zero h1 h2
  · rw [getE_gone (by omega), getR_gone (by omega)]
    exact (log_Get_gone hL ok (by omega)).mono fun x w' ⟨h1, h2⟩ => .zero h1 h2
theorem ref_Get_any {w : World} {S : Nat → Prop} {b : Nat} {m op : Int} {es : List Ent} (hL : RLog w S b m es) (ok : LogOk m es) :
    Calls Try.prog 44 #[.pointer (some ⟨b, 0, none⟩), .int .u64 op] w fun x w' => GetSaid w w' x (getE m es op) (getR m es.length op) := by
  rcases op_cases m op es.length with h | ⟨k, h, rfl⟩ | h | h
  · rw [getE_none h, getR_none h]
    exact (ref_Get_no hL ok.len (by rw [withinE_none h]; decide)).mono fun x w' ⟨h1, h2⟩ => .zero (by rw [h1, withinE_none h]) h2
  · rw [getE_some h, getR_some h]
    exact ref_Get hL ok.len ok.fits h rfl
  · subst h
    rw [getE_gone (by omega), getR_gone (by omega)]
    exact (ref_Get_base hL ok.len).mono fun x w' ⟨h1, h2⟩ => .zero h1 h2
  · rw [getE_gone (by omega), getR_gone (by omega)]
    exact (ref_Get_no hL ok.len (by rw [withinE_gone h]; decide)).mono fun x w' ⟨h1, h2⟩ => .zero (by rw [h1, withinE_gone h]) h2
theorem log_From_any {w : World} {S : Nat → Prop} {b : Nat} {m op : Int} {es : List Ent} (hL : LogAt w S b m es) (ok : LogOk m es) :
    Calls Try.prog 16 #[.pointer (some ⟨b, 0, none⟩), .int .u64 op] w fun x w' => FromSaid w w' x (fromL m es op) (withinE m es.length op) := by
  by_cases h1 : m + es.length < op
  · rw [fromL_none h1, withinE_none h1]
    exact (log_From_none hL ok h1).mono fun x w' ⟨h1, h2⟩ => .zero h1 h2
  · by_cases h2 : op < m
    · rw [fromL_gone h2, withinE_gone h2]
      exact (log_From_gone hL ok h2).mono fun x w' ⟨h1, h2⟩ => .zero h1 h2
    · obtain ⟨k, hk, rfl⟩ : ∃ k : Nat, k ≤ es.length ∧ op = m + k := ⟨(op - m).toNat, by omega, by omega⟩
      rw [fromL_some, withinE_ok hk]
      exact log_From hL ok hk
theorem ref_From_any {w : World} {S : Nat → Prop} {b : Nat} {m op : Int} {es : List Ent} (hL : RLog w S b m es) (ok : LogOk m es) :
    Calls Try.prog 45 #[.pointer (some ⟨b, 0, none⟩), .int .u64 op] w fun x w' => FromSaid w w' x (fromL m es op) (withinE m es.length op) := by
  by_cases h1 : m + es.length < op
  · rw [fromL_none h1, withinE_none h1]
    exact (ref_From_no hL ok.len (by rw [withinE_none h1]; decide)).mono fun x w' ⟨h3, h4⟩ => .zero (by rw [h3, withinE_none h1]) h4
  · by_cases h2 : op < m
    · rw [fromL_gone h2, withinE_gone h2]
      exact (ref_From_no hL ok.len (by rw [withinE_gone h2]; decide)).mono fun x w' ⟨h3, h4⟩ => .zero (by rw [h3, withinE_gone h2]) h4
    · obtain ⟨k, hk, rfl⟩ : ∃ k : Nat, k ≤ es.length ∧ op = m + k := ⟨(op - m).toNat, by omega, by omega⟩
      rw [fromL_some, withinE_ok hk]
      exact ref_From hL ok.len ok.fits hk rfl
end Go.Proofs.Ytmoifhoncanjjaa
