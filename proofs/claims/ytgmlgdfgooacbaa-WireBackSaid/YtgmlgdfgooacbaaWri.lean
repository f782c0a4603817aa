/-
  The Writer's methods: contracts. No condition but lengths far below what memory bears.
-/
import Derived.Test.YtgmlgdfgooacbaaFold
namespace Go.Proofs.Ytgmlgdfgooacbaa
open Go.RowKit
set_option linter.unusedSimpArgs false
set_option linter.unusedVariables false

/-- Bytes of the call's own in a block from lo on, below hi. -/
def OwnIn (w : World) (lo hi : Nat) (v : Value) (bs : List UInt8) : Prop := CmdOwn w lo v bs ∧ ∀ g, v.ownBlock = some g → g < hi
section
variable {w w' : World} {lo hi lo' hi' : Nat} {v : Value} {bs : List UInt8}
theorem OwnIn.of (h : CmdOwn w lo v bs) : OwnIn w lo w.heap.size v bs := ⟨h, fun g hg => (h.lt g hg).2⟩
theorem OwnIn.mono (h : OwnIn w lo hi v bs) (h1 : lo' ≤ lo) (h2 : hi ≤ hi') : OwnIn w lo' hi' v bs := ⟨h.1.base h1, fun g hg => Nat.lt_of_lt_of_le (h.2 g hg) h2⟩
theorem OwnIn.ext {M : Nat → Prop} (h : OwnIn w lo hi v bs) (hX : Ext M w w') (hM : ∀ g, lo ≤ g → g < hi → ¬ M g) : OwnIn w' lo hi v bs :=
  ⟨own_keep h.1 fun k h1 h2 h3 => hX.block k h2 (hM k h1 (h.2 k h3)), h.2⟩
theorem OwnIn.below (h : OwnIn w lo hi v bs) (hX : Below w.heap.size w w') : OwnIn w' lo hi v bs := ⟨h.1.below hX, h.2⟩
theorem OwnIn.rd (h : OwnIn w lo hi v bs) : CmdRd w (fun k => lo ≤ k ∧ k < hi) v bs := by
  obtain ⟨hO, hh⟩ := h
  rcases hO with ⟨hl, ⟨rfl, hn⟩ | ⟨g, cap, cur, rfl, hb, hg, hn, hc, hcs, ht⟩⟩
  · refine ⟨hl, none, 0, by rw [hn], by omega, Nat.zero_le _, fun h => absurd h (by omega)⟩
  · refine ⟨hl, _, cap, rfl, hn, hc, fun _ => ⟨g, 0, rfl, ⟨hb, hh g rfl⟩, fun j u hu => ?_⟩⟩
    rw [Nat.zero_add, cell_of_row w g j cur _ (0, 0) hg]
    rw [← ht, List.getElem?_take] at hu
    split at hu
    · simpa using hu
    · cases hu
theorem OwnIn.nil (w : World) (lo hi : Nat) : OwnIn w lo hi (.slice none 0 0) [] := ⟨World.ownsRow_nil _ _ _ _, fun g hg => by simp [Value.ownBlock] at hg⟩
end

/-- The writer of block a has written bs; its bytes lie in a block from lo on, below hi. -/
def WrAt (w : World) (lo hi a : Nat) (bs : List UInt8) : Prop := ∃ v, Blk w a 25 #[v] ∧ OwnIn w lo hi v bs
section
variable {w w' : World} {lo hi lo' hi' a : Nat} {bs : List UInt8}
theorem WrAt.mono (h : WrAt w lo hi a bs) (h1 : lo' ≤ lo) (h2 : hi ≤ hi') : WrAt w lo' hi' a bs := by
  obtain ⟨v, hB, hO⟩ := h
  exact ⟨v, hB, hO.mono h1 h2⟩
theorem WrAt.ext {M : Nat → Prop} (h : WrAt w lo hi a bs) (hX : Ext M w w') (hM : ∀ g, lo ≤ g → g < hi → ¬ M g) (ha : ¬ M a) : WrAt w' lo hi a bs := by
  obtain ⟨v, hB, hO⟩ := h
  exact ⟨v, hB.ext hX ha, hO.ext hX hM⟩
theorem WrAt.below (h : WrAt w lo hi a bs) (hX : Below w.heap.size w w') : WrAt w' lo hi a bs := by
  obtain ⟨v, hB, hO⟩ := h
  exact ⟨v, hB.below hX, hO.below hX⟩
theorem WrAt.lt (h : WrAt w lo hi a bs) : a < w.heap.size := by
  obtain ⟨v, hB, hO⟩ := h
  exact hB.lt
end

set_option maxHeartbeats 800000 in
theorem wr_Num {w : World} {lo hi a n : Nat} {bs : List UInt8} (h : WrAt w lo hi a bs) (hn : n < 18446744073709551616) (hb : bs.length + 10 ≤ 200000000000000) :
    Calls Try.prog 9 #[.pointer (some ⟨a, 0, none⟩), .int .u64 n] w fun e w' => e = .returned (.tuple #[]) ∧ WrAt w' w.heap.size w'.heap.size a (bs ++ Lib.uvarint n) ∧ Ext (· = a) w w' := by
  obtain ⟨v, hB, hO⟩ := h
  obtain ⟨p, c, rfl⟩ := hO.1.slice
  obtain ⟨a0, f0, hz⟩ := hB.c1
  have HB := Lib.hid hB
  have HO := Lib.hid hO
  clear hB hO
  obtain ⟨l, hl⟩ : ∃ l, bs ++ Lib.uvarint n = l := ⟨_, rfl⟩
  rw [hl]
  have Hl := Lib.hid hl
  clear hl
  go_enter Try.func9, Try.ntmps9
  go_wp2_with fail
  refine (num_Put HO.out.1.rd hn hb).mono ?_
  rintro x w1 ⟨v1, rfl, ho, hX⟩
  rw [Hl.out] at ho
  obtain ⟨p1, c1, rfl⟩ := ho.slice
  have kb := Blk.below HB.out hX
  obtain ⟨b0, g0, hz1⟩ := kb.c1
  have KB := Lib.hid kb
  have Ho := Lib.hid ho
  have HX := Lib.hid hX
  clear kb ho hX
  go_wp2_with fail
  refine bodyPost_end (results_none rfl _ _ _) rfl ⟨rfl, ⟨_, by simpa using KB.out.set_ 0 _, ?_⟩, ?_⟩
  · have h1 : CmdOwn (w1.setCell ⟨a, 0, none⟩ (.slice p1 l.length c1)) w.heap.size (.slice p1 l.length c1) l := own_set Ho.out KB.out (by decide) _ _
    exact OwnIn.of h1
  · exact (Ext.of_below _ HX.out).set1 rfl

theorem wr_Num_nil {w : World} {n : Int} : Calls Try.prog 9 #[.pointer none, .int .u64 n] w fun e w' => e = .returned (.tuple #[]) ∧ w = w' := by
  go_enter Try.func9, Try.ntmps9
  go_wp2_with fail
  exact bodyPost_end (results_none rfl _ _ _) rfl ⟨rfl, rfl⟩

theorem wr_Int {w : World} {lo hi a : Nat} {x : Int} {bs : List UInt8} (h : WrAt w lo hi a bs) (h0 : -9223372036854775808 ≤ x) (h1 : x ≤ 9223372036854775807) (hb : bs.length + 10 ≤ 200000000000000) :
    Calls Try.prog 11 #[.pointer (some ⟨a, 0, none⟩), .int .i64 x] w fun e w' => e = .returned (.tuple #[]) ∧ WrAt w' w.heap.size w'.heap.size a (bs ++ Lib.uvarint (Lib.zigzag x)) ∧ Ext (· = a) w w' := by
  have H := Lib.hid h
  clear h
  go_enter Try.func11, Try.ntmps11
  go_wp2_with fail
  refine (num_Fold h0 h1).mono ?_
  rintro e w' ⟨rfl, rfl⟩
  go_wp2_with fail
  refine (wr_Num H.out (Lib.zigzag_lt h0 h1) hb).mono ?_
  rintro e w' ⟨rfl, hW, hX⟩
  have HW := Lib.hid hW
  have HX := Lib.hid hX
  clear hW hX
  go_wp2_with fail
  exact bodyPost_end (results_none rfl _ _ _) rfl ⟨rfl, HW.out, HX.out⟩

theorem wr_Bool {w : World} {lo hi a : Nat} {x : Bool} {bs : List UInt8} (h : WrAt w lo hi a bs) (hb : bs.length + 10 ≤ 200000000000000) :
    Calls Try.prog 13 #[.pointer (some ⟨a, 0, none⟩), .bool x] w fun e w' => e = .returned (.tuple #[]) ∧ WrAt w' w.heap.size w'.heap.size a (bs ++ Lib.uvarint x.toNat) ∧ Ext (· = a) w w' := by
  have H := Lib.hid h
  clear h
  cases x with
  | true =>
    go_enter Try.func13, Try.ntmps13
    go_wp2_with fail
    refine (wr_Num (n := 1) H.out (by decide) hb).mono ?_
    rintro e w' ⟨rfl, hW, hX⟩
    have HW := Lib.hid hW
    have HX := Lib.hid hX
    clear hW hX
    go_wp2_with fail
    exact bodyPost_end (results_none rfl _ _ _) rfl ⟨rfl, HW.out, HX.out⟩
  | false =>
    go_enter Try.func13, Try.ntmps13
    go_wp2_with fail
    refine (wr_Num (n := 0) H.out (by decide) hb).mono ?_
    rintro e w' ⟨rfl, hW, hX⟩
    have HW := Lib.hid hW
    have HX := Lib.hid hX
    clear hW hX
    go_wp2_with fail
    exact bodyPost_end (results_none rfl _ _ _) rfl ⟨rfl, HW.out, HX.out⟩

/-- A slice's bytes, its length ahead. -/
def lenBytes (b : List UInt8) : List UInt8 := Lib.uvarint b.length ++ b

set_option maxHeartbeats 800000 in
theorem wr_Bytes {w : World} {S : Nat → Prop} {lo hi a : Nat} {v : Value} {bs b : List UInt8} (h : WrAt w lo hi a bs) (hr : CmdRd w S v b) (hnil : NilOk v) (hS : ¬ S a) (hb : bs.length + b.length + 10 ≤ 200000000000000) :
    Calls Try.prog 14 #[.pointer (some ⟨a, 0, none⟩), v] w fun e w' => e = .returned (.tuple #[]) ∧ WrAt w' w.heap.size w'.heap.size a (bs ++ lenBytes b) ∧ Ext (· = a) w w' := by
  obtain ⟨p0, c0, rfl⟩ := hr.slice
  have hlt := h.lt
  have H := Lib.hid h
  have HR := Lib.hid hr
  have HN := Lib.hid hnil
  have hu := Lib.uvarint_length64 (x := b.length) (by omega)
  clear h hr hnil
  obtain ⟨l, hl⟩ : ∃ l, bs ++ Lib.uvarint b.length = l := ⟨_, rfl⟩
  obtain ⟨r, hr⟩ : ∃ r, l ++ b = r := ⟨_, rfl⟩
  have e : bs ++ lenBytes b = r := by rw [← hr, ← hl, List.append_assoc]; rfl
  have hlen : l.length + b.length ≤ 200000000000000 := by rw [← hl, List.length_append]; omega
  rw [e]
  have Hl := Lib.hid hl
  have Hr := Lib.hid hr
  clear hl hr e
  go_enter Try.func14, Try.ntmps14
  go_wp2_with fail
  refine (wr_Num (n := b.length) H.out (by omega) (by omega)).mono ?_
  rintro e w1 ⟨rfl, ⟨v1, hB, hO⟩, hX⟩
  rw [Hl.out] at hO
  obtain ⟨p1, c1, rfl⟩ := hO.1.slice
  obtain ⟨a0, f0, hz⟩ := hB.c1
  have HR1 := Lib.hid (Rd.ext HR.out hX (fun k hk he => hS (by subst he; exact hk)) (by decide))
  have HB := Lib.hid hB
  have HO := Lib.hid hO
  have HX := Lib.hid hX
  have hsz := hX.size
  clear hB hO hX H HR
  go_wp2_with (at_builtin; refine wpList_append_rd rfl _ _ rfl w.heap.size _ l b S rfl HO.out.1 p0 c0 rfl HR1.out HN.out hlen hsz ?_)
  intro v2 w2 ho hg
  rw [Hr.out] at ho
  obtain ⟨p2, c2, hv2⟩ := ho.slice
  subst hv2
  have kb := Blk.grown HB.out hg (fun he => own_ne HO.out.1 HB.out (by decide) he.symm)
  obtain ⟨b0, g0, hz2⟩ := kb.c1
  have KB := Lib.hid kb
  have Ho := Lib.hid ho
  have HG := Lib.hid hg
  clear kb ho hg
  go_wp2_with fail
  refine bodyPost_end (results_none rfl _ _ _) rfl ⟨rfl, ⟨_, by simpa using KB.out.set_ 0 _, ?_⟩, ?_⟩
  · have h1 : CmdOwn (w2.setCell ⟨a, 0, none⟩ (.slice p2 r.length c2)) w.heap.size (.slice p2 r.length c2) r := own_set Ho.out KB.out (by decide) _ _
    exact OwnIn.of h1
  · have hg := HG.out
    refine Ext.set1 ⟨hg.os.trans HX.out.os, hg.tape.trans HX.out.tape, hg.output.trans HX.out.output, Nat.le_trans HX.out.size hg.size, fun k hk hn => ?_⟩ rfl
    refine (hg.block k (by omega) fun he => ?_).trans (HX.out.block k hk hn)
    have := (HO.out.1.lt k he.symm).1
    omega
end Go.Proofs.Ytgmlgdfgooacbaa
