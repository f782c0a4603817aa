/-
  What CmdPuts' walk carries along; two commands of different revisions are not the same.
-/
import Derived.Test.YtciojggkcmdjiaaDoorFew15
import Derived.Test.YtciojggkcmdjiaaDoorPutN15
import Derived.Test.YtciojggkcmdjiaaDoorRefSA15
namespace Go.Proofs.YtciojggkcmdjiaaDoor
open Go.RowKit
set_option linter.unusedSimpArgs false
set_option linter.unusedVariables false

theorem rev_next (n : Int) : IntKind.u64.wrap (n + 1) ≠ n := by rw [IntKind.wrap_u64]; omega
set_option maxHeartbeats 6400000 in
set_option maxRecDepth 100000 in
theorem cmd_SameNot {w : World} {p q : Option Addr} {c d n m : Nat} {kind doc rev rev2 pos : Int} {name : List UInt8} (hne : rev ≠ rev2) :
    Calls Tryd.prog 7 #[.agg #[.int .i64 kind, .int .u32 doc, .string ⟨name.toArray⟩, .int .u64 rev, .int .i64 pos, .slice p n c], .agg #[.int .i64 kind, .int .u32 doc, .string ⟨name.toArray⟩, .int .u64 rev2, .int .i64 pos, .slice q m d]] w fun x w' => x = .returned (.bool false) ∧ Below w.heap.size w w' := by
  have hb1 := (Below.refl w.heap.size w).alloc (Nat.le_refl _) (.cells #[.int .i64 kind, .int .u32 doc, .string ⟨name.toArray⟩, .int .u64 rev, .int .i64 pos, .slice p n c] 26)
  have hb2 := hb1.alloc hb1.size (.cells #[.int .i64 kind, .int .u32 doc, .string ⟨name.toArray⟩, .int .u64 rev2, .int .i64 pos, .slice q m d] 26)
  have HB := Lib.hid hb2
  have hr : (rev == rev2) = false := by simpa using hne
  clear hb1 hb2 hne
  go_enter Tryd.func7, Tryd.ntmps7
  go_wp2_with fail
  go_ret
  exact ⟨rfl, HB.out⟩
theorem AnV.ext {w w' : World} {S M : Nat → Prop} {v : Value} {a : An} (h : AnV w S v a) (he : Ext M w w') (hm : ∀ k, S k → ¬ M k) : AnV w' S v a := by
  obtain ⟨p, c, q, d, s, e, hv, h1, h2, h3⟩ := h
  exact ⟨p, c, q, d, s, e, hv, h1.ext he hm, h2.ext he hm, h3.ext he hm⟩
/-- The same bytes. -/
theorem bytes_EqualT {w : World} {S T : Nat → Prop} {v u : Value} {l : List UInt8} (h : CmdRd w S v l) (k : CmdRd w T u l) :
    Calls Tryd.prog 9 #[v, u] w fun e w' => e = .returned (.bool true) ∧ Below w.heap.size w w' := by
  refine (bytes_Equal h k).mono ?_
  rintro _ _ ⟨rfl, rfl⟩
  exact ⟨by rw [beq_self_eq_true], Below.refl _ _⟩
/-- What the calls that put tell, in one form. -/
def PutU (w w' : World) (l : List UInt8) (e : Int) (x : Ending) : Prop := ∃ q d, x = .returned (.tuple #[.slice q l.length d, .int .i64 e]) ∧ CmdOwn w' w.heap.size (.slice q l.length d) l ∧ Below w.heap.size w w'
def bytesOr (r : Bool) (bs : List UInt8) : List UInt8 := if r then bs else []
def errOr (r : Bool) : Int := if r then 0 else 1
theorem PutR.u {w w' : World} {bs : List UInt8} {r : Bool} {x : Ending} (h : PutR w w' bs r x) : PutU w w' (bytesOr r bs) (errOr r) x := by
  obtain ⟨q, d, h1, h2, h3⟩ := h
  cases r with
  | true => obtain ⟨h4, h5⟩ := h1 rfl; exact ⟨q, d, h4, h5, h3⟩
  | false => exact ⟨none, 0, h2 rfl, World.ownsRow_nil _ _ _ _, h3⟩
theorem AnV.parts {w : World} {S : Nat → Prop} {a : An} {p q s : Option Addr} {c d e : Nat} (h : AnV w S (.agg #[.int .i64 a.err, .int .u32 a.doc, .int .u64 a.rev, .bool a.whole, .slice p a.text.length c, .slice q a.ops.length d, .slice s a.seats.length e]) a) :
    ChsRd w S (.slice p a.text.length c) a.text ∧ OpsRd w S (.slice q a.ops.length d) a.ops ∧ StsRd w S (.slice s a.seats.length e) a.seats := by
  obtain ⟨p', c', q', d', s', e', hv, h1, h2, h3⟩ := h
  injection hv with hv
  simp only [Array.mk.injEq, List.cons.injEq, Value.slice.injEq, true_and, and_true] at hv
  obtain ⟨⟨rfl, rfl⟩, ⟨rfl, rfl⟩, rfl, rfl⟩ := hv
  exact ⟨h1, h2, h3⟩
theorem AnV.form {w : World} {S : Nat → Prop} {v : Value} {a : An} (h : AnV w S v a) : ∃ p c q d s e, v = .agg #[.int .i64 a.err, .int .u32 a.doc, .int .u64 a.rev, .bool a.whole, .slice p a.text.length c, .slice q a.ops.length d, .slice s a.seats.length e] := by
  obtain ⟨p, c, q, d, s, e, hv, _⟩ := h
  exact ⟨p, c, q, d, s, e, hv⟩
/-- What is carried from call to call. -/
structure Car (w0 w : World) (p : Option Addr) (c : Nat) (us : List Ut) (av : List (Value × An)) (ks : List (Nat × TypeId × Array Value)) (L : List (Value × List UInt8)) : Prop where
  below : Below w0.heap.size w0 w
  forms : Forms w
  uts : UtsRd w (fun j => j < w.heap.size) (.slice p us.length c) us
  ans : ∀ x ∈ av, AnV w (fun j => j < w.heap.size) x.1 x.2
  blk : ∀ x ∈ ks, Blk w x.1 x.2.1 x.2.2
  bts : ∀ x ∈ L, ∃ base, CmdOwn w base x.1 x.2
variable {w0 w w' : World} {p : Option Addr} {c : Nat} {us : List Ut} {av : List (Value × An)} {ks : List (Nat × TypeId × Array Value)} {L : List (Value × List UInt8)}
theorem Car.next (h : Car w0 w p c us av ks L) (hb : Below w.heap.size w w') : Car w0 w' p c us av ks L :=
  ⟨h.below.trans (hb.mono h.below.size), h.forms.below hb, (h.uts.below hb).into fun j hj => Nat.lt_of_lt_of_le hj hb.size, fun x hx => ((h.ans x hx).below hb).into fun j hj => Nat.lt_of_lt_of_le hj hb.size, fun x hx => (h.blk x hx).below hb,
    fun x hx => by obtain ⟨b, ho⟩ := h.bts x hx; exact ⟨b, ho.below hb⟩⟩
theorem Car.bytes (h : Car w0 w p c us av ks L) {l : List UInt8} {v : Value} {b : Nat} (ho : CmdOwn w b v l) : Car w0 w p c us av ks ((v, l) :: L) :=
  ⟨h.below, h.forms, h.uts, h.ans, h.blk, fun x hx => by
    rcases List.mem_cons.1 hx with rfl | hx
    · exact ⟨b, ho⟩
    · exact h.bts x hx⟩
theorem Car.block (h : Car w0 w p c us av ks L) {g : Nat} {t : TypeId} {cs : Array Value} (ho : Blk w g t cs) : Car w0 w p c us av ((g, t, cs) :: ks) L :=
  ⟨h.below, h.forms, h.uts, h.ans, fun x hx => by
    rcases List.mem_cons.1 hx with rfl | hx
    · exact ho
    · exact h.blk x hx, h.bts⟩
/-- A fresh struct of seven cells, laid anew. -/
def set7 (w : World) (g : Nat) (v0 v1 v2 v3 v4 v5 v6 : Value) : World := (((((((w.setCell ⟨g, 0, none⟩ v0).setCell ⟨g, 1, none⟩ v1).setCell ⟨g, 2, none⟩ v2).setCell ⟨g, 3, none⟩ v3).setCell ⟨g, 4, none⟩ v4).setCell ⟨g, 5, none⟩ v5).setCell ⟨g, 6, none⟩ v6)
theorem Blk.set7 {w : World} {g : Nat} {t : TypeId} {a0 a1 a2 a3 a4 a5 a6 : Value} (h : Blk w g t #[a0, a1, a2, a3, a4, a5, a6]) (v0 v1 v2 v3 v4 v5 v6 : Value) : Blk (set7 w g v0 v1 v2 v3 v4 v5 v6) g t #[v0, v1, v2, v3, v4, v5, v6] := by
  have := ((((((h.set_ 0 v0).set_ 1 v1).set_ 2 v2).set_ 3 v3).set_ 4 v4).set_ 5 v5).set_ 6 v6
  simpa [Go.Proofs.YtciojggkcmdjiaaDoor.set7] using this
theorem set7_heap (w : World) (g : Nat) (v0 v1 v2 v3 v4 v5 v6 : Value) {k : Nat} (hk : k ≠ g) : (set7 w g v0 v1 v2 v3 v4 v5 v6).heap[k]? = w.heap[k]? := by
  unfold set7
  rw [heap_setCell_other _ _ _ _ hk, heap_setCell_other _ _ _ _ hk, heap_setCell_other _ _ _ _ hk, heap_setCell_other _ _ _ _ hk, heap_setCell_other _ _ _ _ hk, heap_setCell_other _ _ _ _ hk, heap_setCell_other _ _ _ _ hk]
theorem set7_ext (w : World) (g : Nat) (v0 v1 v2 v3 v4 v5 v6 : Value) : Ext (· = g) w (set7 w g v0 v1 v2 v3 v4 v5 v6) := by
  unfold set7
  exact (((((((Ext.refl (· = g) w).set1 rfl).set1 rfl).set1 rfl).set1 rfl).set1 rfl).set1 rfl).set1 rfl
structure WfR (a : An) : Prop where
  err : a.err ≤ 9223372036854775807
  doc : 0 ≤ a.doc ∧ a.doc ≤ 4294967295
  rev : 0 ≤ a.rev
  cl : ∀ o ∈ a.ops, (0 ≤ o.cl ∧ o.cl ≤ 4294967295) ∧ (0 ≤ o.rq ∧ o.rq ≤ 18446744073709551615) ∧ ∀ u ∈ o.us, WfU u
  seats : ∀ s ∈ a.seats, WfS s
theorem WfR.few {a : An} (h : WfR a) : WfA (fewA a) := by
  refine ⟨h.err, h.doc, h.rev, fun o ho => ?_, fun s hs => h.seats s (List.mem_of_mem_take hs), ?_, ?_, ?_⟩
  · obtain ⟨o', ho', rfl⟩ := List.mem_map.1 (show o ∈ (a.ops.take 20).map cutO from ho)
    obtain ⟨h1, h2, h3⟩ := h.cl o' (List.mem_of_mem_take ho')
    exact ⟨h1, h2, fun u hu => h3 u (List.mem_of_mem_take hu), by show (o'.us.take 300).length ≤ 300; rw [List.length_take]; omega⟩
  · show (a.text.take 300).length ≤ 300; rw [List.length_take]; omega
  · show ((a.ops.take 20).map cutO).length ≤ 20; rw [List.length_map, List.length_take]; omega
  · show (a.seats.take 20).length ≤ 20; rw [List.length_take]; omega
end Go.Proofs.YtciojggkcmdjiaaDoor
