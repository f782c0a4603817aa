/-
  Things of a record: what they read as; bytes that are turned in place. Plain theorems over memory.
-/
import Derived.Test.YtgmlgdfgooacbaaWake03
import Derived.Laws.BitsAllLaws
namespace Go.Proofs.Ytgmlgdfgooacbaa
open Go.RowKit
set_option linter.unusedSimpArgs false
set_option linter.unusedVariables false

structure Thing where
  what : Int
  n : Nat
  b : List UInt8

def ThR (w : World) (S : Nat → Prop) (c : List Value) (t : Thing) : Prop := ∃ s, c = [.int .i64 t.what, .int .u64 t.n, s] ∧ CmdRd w S s t.b ∧ NilOk s
def ThingsRd (w : World) (S : Nat → Prop) (v : Value) (ts : List Thing) : Prop := ∃ cs, Rd w S 3 v ts.length cs ∧ Els (ThR w S) 3 cs ts
theorem ThingsRd.below {w w' : World} {S : Nat → Prop} {v : Value} {ts : List Thing} (h : ThingsRd w S v ts) (hb : Below w.heap.size w w') : ThingsRd w' S v ts := by
  obtain ⟨cs, hr, hE⟩ := h
  exact ⟨cs, hr.below (by decide) hb, hE.imp fun c t _ ⟨s, h1, h2, h3⟩ => ⟨s, h1, h2.below hb, h3⟩⟩
/-- The numbers are of their kinds. -/
def ThingsOk (ts : List Thing) : Prop := ∀ t ∈ ts, t.n < 18446744073709551616 ∧ t.b.length ≤ 200000000000000

theorem three_at {cs : List Value} {k : Nat} {a b c : Value} (h : (cs.drop k).take 3 = [a, b, c]) : cs[k]? = some a ∧ cs[k + 1]? = some b ∧ cs[k + 2]? = some c := by
  have g : ∀ j, j < 3 → cs[k + j]? = [a, b, c][j]? := by
    intro j hj
    rw [← h, List.getElem?_take, if_pos hj, List.getElem?_drop]
  exact ⟨g 0 (by omega), g 1 (by omega), g 2 (by omega)⟩
theorem cells3 {w : World} {bk off k : Nat} {cs : List Value} {a b c : Value} (hc : ∀ j u, cs[j]? = some u → w.cell? ⟨bk, off + j, none⟩ = some u) (h : (cs.drop (k * 3)).take 3 = [a, b, c]) :
    w.cell? ⟨bk, off + k * 3, none⟩ = some a ∧ w.cell? ⟨bk, off + k * 3 + 1, none⟩ = some b ∧ w.cell? ⟨bk, off + k * 3 + 2, none⟩ = some c := by
  obtain ⟨h0, h1, h2⟩ := three_at h
  exact ⟨hc _ _ h0, hc _ _ h1, hc _ _ h2⟩
/-- The k-th thing's cells. -/
theorem ThingsRd.at_ {w : World} {S : Nat → Prop} {p : Option Addr} {c k : Nat} {ts : List Thing} (h : ThingsRd w S (.slice p ts.length c) ts) (hk : k < ts.length) :
    ∃ bk off q d, p = some ⟨bk, off, none⟩ ∧ w.cell? ⟨bk, off + k * 3, none⟩ = some (.int .i64 ts[k].what) ∧ w.cell? ⟨bk, off + k * 3 + 1, none⟩ = some (.int .u64 ts[k].n) ∧ w.cell? ⟨bk, off + k * 3 + 2, none⟩ = some (.slice q ts[k].b.length d) ∧
      CmdRd w S (.slice q ts[k].b.length d) ts[k].b ∧ NilOk (.slice q ts[k].b.length d) ∧ ts[k].b.length ≤ d ∧ d ≤ maxLen := by
  obtain ⟨cs, hr, hE⟩ := h
  obtain ⟨bk, off, he, _, _, hcell⟩ := Rd.addr hr (by omega)
  obtain ⟨s, hs, hq, hn⟩ := hE.2 k ts[k] (List.getElem?_eq_getElem hk)
  obtain ⟨e0, e1, e2⟩ := cells3 hcell hs
  obtain ⟨q, d, rfl⟩ := Rd.slice hq
  have hd : ts[k].b.length ≤ d := by obtain ⟨_, _, _, h, h1, _⟩ := hq; injection h with _ _ h; omega
  have hd2 : d ≤ maxLen := by obtain ⟨_, _, _, h, _, h1, _⟩ := hq; injection h with _ _ h; omega
  exact ⟨bk, off, q, d, he, e0, e1, e2, hq, hn, hd, hd2⟩

theorem CmdRd.nilfront {p : Option Addr} {n c k : Nat} (h : NilOk (.slice p n c)) : NilOk (.slice p k c) := by
  intro n' c' e
  injection e with e1 e2 e3
  subst e1; subst e3
  exact h _ _ rfl

/-- A row of bytes of the call's own, whatever they are. -/
def SpRow (w : World) (lo : Nat) (p : Option Addr) (n c : Nat) : Prop := ∃ bs, w.ownsRow lo 5 1 (.slice p n c) n (bcells bs)
theorem SpRow.of {w : World} {lo : Nat} {p : Option Addr} {c : Nat} {bs : List UInt8} (h : CmdOwn w lo (.slice p bs.length c) bs) : SpRow w lo p bs.length c := ⟨bs, h⟩
theorem SpRow.form {w : World} {lo n c : Nat} {p : Option Addr} (h : SpRow w lo p n c) (hn : 0 < n) : ∃ g, p = some ⟨g, 0, none⟩ := by
  obtain ⟨bs, h⟩ := h
  rcases h.2 with ⟨h1, h2⟩ | ⟨g, cap, cur, h1, _⟩
  · omega
  · injection h1 with h1; exact ⟨g, h1⟩
theorem SpRow.cell {w : World} {lo n c g j : Nat} (h : SpRow w lo (some ⟨g, 0, none⟩) n c) (hj : j < n) : (∃ x : UInt8, w.cell? ⟨g, j, none⟩ = some (.int .u8 x.toNat)) ∧ w.frozen? ⟨g, j, none⟩ = false ∧ lo ≤ g ∧ g < w.heap.size ∧ n ≤ c := by
  obtain ⟨bs, h⟩ := h
  have hl : bs.length = n := by have := h.1; rw [bcells_len, Nat.mul_one] at this; exact this
  have hg := h.lt g rfl
  have hc : n ≤ c := by
    rcases h.2 with ⟨h1, _⟩ | ⟨g', cap, cur, h1, _, _, hn, _⟩
    · cases h1
    · injection h1 with _ _ h1; omega
  refine ⟨⟨bs[j]'(by omega), ?_⟩, h.frozenAt j, hg.1, hg.2, hc⟩
  rw [h.cellAt j (by omega)]
  simp [bcells, List.getElem?_eq_getElem (show j < bs.length by omega)]
theorem SpRow.stored {w : World} {lo n c g j : Nat} (h : SpRow w lo (some ⟨g, 0, none⟩) n c) (x : Nat) (hx : x < 256) : SpRow (w.setCell ⟨g, j, none⟩ (.int .u8 x)) lo (some ⟨g, 0, none⟩) n c := by
  obtain ⟨bs, h⟩ := h
  refine ⟨bs.set j (UInt8.ofNat x), ?_⟩
  have e : bcells (bs.set j (UInt8.ofNat x)) = (bcells bs).set j (.int .u8 x) := by
    unfold bcells
    rw [List.map_set]
    congr 2
    rw [UInt8.toNat_ofNat']
    omega
  rw [e]
  exact (h.stored j _).1
theorem xor255 (x : UInt8) : ∃ y : Nat, y < 256 ∧ bits .xor .u8 (x.toNat : Int) 255 = (y : Int) :=
  ⟨x.toNat ^^^ 255, Nat.xor_lt_two_pow (n := 8) x.toNat_lt (by decide), u8_xor_nat x.toNat 255 x.toNat_lt (by decide)⟩
end Go.Proofs.Ytgmlgdfgooacbaa
