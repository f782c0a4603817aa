/-
  Entries of a log: what they read as, and the contracts of logs.own and logs.owns.
-/
import Derived.Test.YtgmekodfkhihiaaMem22
namespace Go.Proofs.Ytgmekodfkhihiaa
open Go.RowKit

/-- An entry's data. -/
structure Ent where
  t : Int
  c : Int
  r : Int
  cmd : List UInt8

def bcells (l : List UInt8) : List Value := l.map fun b => .int .u8 b.toNat
theorem bcells_len (l : List UInt8) : (bcells l).length = l.length := by simp [bcells]
theorem bcells_one (l : List UInt8) : ∀ u ∈ bcells l, u.oneCell' = true := by
  intro u hu; obtain ⟨x, _, rfl⟩ := List.mem_map.1 hu; rfl

/-- An entry as a value. -/
def entVal (e : Ent) (s : Value) : Value := .agg #[.int .u64 e.t, .int .u32 e.c, .int .u64 e.r, s]

theorem ent_one (e : Ent) (p : Option Addr) {n c : Nat} : ∀ u ∈ [Value.int .u64 e.t, .int .u32 e.c, .int .u64 e.r, .slice p n c], u.oneCell' = true := by
  intro u hu
  simp at hu
  rcases hu with rfl | rfl | rfl | rfl <;> rfl

/-- The cells of an entry, Q of its command's slice. -/
def EntR (Q : Value → List UInt8 → Prop) (c : List Value) (e : Ent) : Prop := ∃ s, c = [.int .u64 e.t, .int .u32 e.c, .int .u64 e.r, s] ∧ Q s e.cmd
theorem EntR.one {Q : Value → List UInt8 → Prop} (hQ : ∀ s b, Q s b → s.oneCell' = true) (c : List Value) (e : Ent) (h : EntR Q c e) : ∀ u ∈ c, u.oneCell' = true := by
  obtain ⟨s, rfl, hq⟩ := h
  intro u hu
  simp at hu
  rcases hu with rfl | rfl | rfl | rfl
  · rfl
  · rfl
  · rfl
  · exact hQ _ _ hq
/-- A command's slice that reads so. -/
def CmdRd (w : World) (S : Nat → Prop) (s : Value) (b : List UInt8) : Prop := Rd w S 1 s b.length (bcells b)
/-- A command's slice in memory from base on. -/
def CmdOwn (w : World) (base : Nat) (s : Value) (b : List UInt8) : Prop := w.ownsRow base 5 1 s b.length (bcells b)

theorem CmdRd.one {w : World} {S : Nat → Prop} (s : Value) (b : List UInt8) (h : CmdRd w S s b) : s.oneCell' = true := by
  obtain ⟨p, c, rfl⟩ := Rd.slice h
  rfl
/-- A slice of entries reads so. -/
def EntsRd (w : World) (S : Nat → Prop) (v : Value) (es : List Ent) : Prop := ∃ cs, Rd w S 4 v es.length cs ∧ Els (EntR (CmdRd w S)) 4 cs es
/-- A slice of entries, all in memory from base on. -/
def EntsOwn (w : World) (base : Nat) (v : Value) (es : List Ent) : Prop := ∃ cs, w.ownsRow base 32 4 v es.length cs ∧ Els (EntR (CmdOwn w base)) 4 cs es
/-- No command is too long. -/
def Fits (es : List Ent) : Prop := ∀ e ∈ es, e.cmd.length ≤ 140737488355328

theorem EntsOwn.below {w w' : World} {base : Nat} {v : Value} {es : List Ent} (h : EntsOwn w base v es) (hb : Below w.heap.size w w') : EntsOwn w' base v es := by
  obtain ⟨cs, ho, hE⟩ := h
  exact ⟨cs, own_below ho hb, hE.imp fun c e _ ⟨s, hs, hq⟩ => ⟨s, hs, own_below hq hb⟩⟩
theorem EntsOwn.base {w : World} {base base' : Nat} {v : Value} {es : List Ent} (h : EntsOwn w base v es) (hb : base' ≤ base) : EntsOwn w base' v es := by
  obtain ⟨cs, ho, hE⟩ := h
  exact ⟨cs, own_base ho hb, hE.imp fun c e _ ⟨s, hs, hq⟩ => ⟨s, hs, own_base hq hb⟩⟩

/-- One entry more, appended. -/
theorem EntsOwn.snoc {w w' : World} {base : Nat} {v v' s : Value} {es : List Ent} {e : Ent} {cs : List Value} (ho : w.ownsRow base 32 4 v es.length cs) (hE : Els (EntR (CmdOwn w base)) 4 cs es)
    (hs : CmdOwn w base s e.cmd) (hg : w.grownBy w' v.ownBlock) (ho' : w'.ownsRow base 32 4 v' (es.length + 1) (cs ++ [.int .u64 e.t, .int .u32 e.c, .int .u64 e.r, s])) : EntsOwn w' base v' (es ++ [e]) := by
  refine ⟨_, by simpa using ho', Els.snoc (hE.imp fun c e _ ⟨s, hs, hq⟩ => ⟨s, hs, own_grown hq ho (by decide) hg⟩) rfl ⟨s, rfl, own_grown hs ho (by decide) hg⟩⟩

end Go.Proofs.Ytgmekodfkhihiaa
