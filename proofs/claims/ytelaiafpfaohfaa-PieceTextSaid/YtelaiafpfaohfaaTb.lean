/-
  piece.Table, whatever is asked: New, Insert, Delete, Read, Text, Pieces, Len over the plain table: the contracts. No condition but bounds far below what memory bears.
-/
import Derived.Test.YtelaiafpfaohfaaLaw05
namespace Go.Proofs.Ytelaiafpfaohfaa
open Go.RowKit
set_option linter.unusedSimpArgs false
set_option linter.unusedVariables false

def TbAt (w : World) (S : Nat → Prop) (b : Nat) (t : Tb) : Prop := TabS w S b t.f t.s t.ps t.long
section
variable {w w' : World} {S S' : Nat → Prop} {b : Nat} {t : Tb}
theorem TbAt.weak (h : TbAt w S b t) (hs : ∀ k, S k → k < w.heap.size → S' k) : TbAt w S' b t := by
  obtain ⟨vf, vs, vp, hB, hf, hs', hp, hn⟩ := h
  exact ⟨vf, vs, vp, hB, Rd.weak hf hs (by decide), Rd.weak hs' hs (by decide), Rd.weak hp hs (by decide), hn⟩
theorem TbAt.below (h : TbAt w S b t) (hb : Below w.heap.size w w') : TbAt w' S b t := TabS.below h hb
theorem TbAt.ext {M : Nat → Prop} (h : TbAt w S b t) (he : Ext M w w') (hm : ∀ k, S k → ¬ M k) (hb : ¬ M b) : TbAt w' S b t := by
  obtain ⟨vf, vs, vp, hB, hf, hs', hp, hn⟩ := h
  exact ⟨vf, vs, vp, hB.ext he hb, Rd.ext hf he hm (by decide), Rd.ext hs' he hm (by decide), Rd.ext hp he hm (by decide), hn⟩
theorem TbAt.alloc (h : TbAt w S b t) (o : Obj) : TbAt (w.alloc o) S b t := h.below ((Below.refl w.heap.size w).alloc (Nat.le_refl _) o)
theorem TbAt.blk (h : TbAt w S b t) : ∃ x y z, Blk w b 63 #[x, y, z, .int .i64 (t.long : Int), .bool true] := by
  obtain ⟨x, y, z, hB, _⟩ := h
  exact ⟨x, y, z, hB⟩
theorem TbAt.lt (h : TbAt w S b t) : b < w.heap.size := by
  obtain ⟨x, y, z, hB⟩ := h.blk
  exact hB.lt
end

/-- A new table. -/
def TbNew (w : World) (l : List Int) (e : Ending) (w' : World) : Prop := ∃ b, e = .returned (.pointer (some ⟨b, 0, none⟩)) ∧ w.heap.size ≤ b ∧ TbAt w' (fun k => w.heap.size ≤ k ∧ k ≠ b) b (Tb.new l) ∧ Below w.heap.size w w'
theorem new_all {w : World} {S : Nat → Prop} {v : Value} {l : List Int} (h : CharRd w S v l) (hn : l.length ≤ 1000000) :
    Calls Try.prog 10 #[v] w (TbNew w l) := new_any h hn

/-- What a change leaves: the errno and the table. -/
def TbDone (w : World) (S : Nat → Prop) (b : Nat) (r : Int × Tb) (e : Ending) (w' : World) : Prop := e = .returned (.int .i64 r.1) ∧ TbAt w' (NewOr S w) b r.2 ∧ Ext (fun k => k = b) w w'
theorem ins_all {w : World} {T S : Nat → Prop} {b N : Nat} {t : Tb} {l : List Int} {pl : Option Addr} {cl : Nat} {pos : Int} (h : TbAt w T b t) (hT : ¬ T b) (hok : t.Ok N) (hN : N ≤ 100000)
    (hx : CharRd w S (.slice pl l.length cl) l) (hxn : NilOk (.slice pl l.length cl)) (hl : l.length ≤ 100000) :
    Calls Try.prog 12 #[.pointer (some ⟨b, 0, none⟩), .int .i64 pos, .slice pl l.length cl] w (TbDone w T b (t.ins pos l)) := by
  have hlong := hok.n
  obtain ⟨x, y, z, hB⟩ := h.blk
  have hw : ∀ {w'}, w = w' → TbAt w' (NewOr T w) b t ∧ Ext (fun k => k = b) w w' := by
    rintro w' rfl
    exact ⟨h.weak fun _ h _ => .inl h, Ext.refl _ _⟩
  by_cases h1 : pos < 0
  · rw [Tb.ins_no (by omega)]
    refine (insert_neg hB (by omega) h1).mono ?_
    rintro e w' ⟨rfl, he⟩
    exact ⟨rfl, hw he⟩
  · by_cases h2 : (t.long : Int) < pos
    · rw [Tb.ins_no (by omega)]
      refine (insert_far hB (by omega) h1 h2).mono ?_
      rintro e w' ⟨rfl, he⟩
      exact ⟨rfl, hw he⟩
    · have e1 : t.ins pos l = (0, if l.length = 0 then t else ⟨t.f, t.s ++ l, insertL t.ps pos.toNat t.s.length l.length, t.long + l.length⟩) := by
        unfold Tb.ins
        rw [if_pos (by omega)]
      rw [e1]
      by_cases h0 : l.length = 0
      · rw [if_pos h0, h0]
        refine (insert_empty (n := 0) hB (by omega) h1 h2).mono ?_
        rintro e w' ⟨rfl, he⟩
        exact ⟨rfl, hw he⟩
      · rw [if_neg h0]
        obtain ⟨k, rfl⟩ : ∃ k : Nat, pos = k := ⟨pos.toNat, by omega⟩
        rw [Int.toNat_natCast]
        have hf := hok.f
        have hs := hok.s
        have hp := hok.pcs
        exact (insert_any h hT hok.pin (by omega) (by omega) (by omega) (by omega) (by omega) hx hxn (by omega) (by omega)).mono fun _ _ h => h
theorem del_all {w : World} {T : Nat → Prop} {b N : Nat} {t : Tb} {pos n : Int} (h : TbAt w T b t) (hT : ¬ T b) (hok : t.Ok N) (hN : N ≤ 100000)
    (hp : -9223372036854775808 ≤ pos ∧ pos ≤ 9223372036854775807) (hn : -9223372036854775808 ≤ n ∧ n ≤ 9223372036854775807) :
    Calls Try.prog 14 #[.pointer (some ⟨b, 0, none⟩), .int .i64 pos, .int .i64 n] w (TbDone w T b (t.del pos n)) := by
  have hlong := hok.n
  obtain ⟨x, y, z, hB⟩ := h.blk
  have hw : ∀ {w'}, w = w' → TbAt w' (NewOr T w) b t ∧ Ext (fun k => k = b) w w' := by
    rintro w' rfl
    exact ⟨h.weak fun _ h _ => .inl h, Ext.refl _ _⟩
  cases hi : inText t.long pos n with
  | false =>
    rw [Tb.del_no hi]
    refine (delete_no hB (by omega) hp hn hi).mono ?_
    rintro e w' ⟨rfl, he⟩
    exact ⟨rfl, hw he⟩
  | true =>
    have e1 : t.del pos n = (0, if n = 0 then t else ⟨t.f, t.s, deleteL t.ps pos.toNat n.toNat, t.long - n.toNat⟩) := by
      unfold Tb.del
      rw [if_pos hi]
    rw [e1]
    by_cases h0 : n = 0
    · rw [if_pos h0]
      refine (delete_zero hB (by omega) hp hn hi h0).mono ?_
      rintro e w' ⟨rfl, he⟩
      exact ⟨rfl, hw he⟩
    · rw [if_neg h0]
      obtain ⟨p, m, rfl, rfl, hk⟩ := Tb.inText_iff.1 hi
      simp only [Int.toNat_natCast]
      have hf := hok.f
      have hs := hok.s
      have hp := hok.pcs
      exact (delete_any h hT hok.pin (by omega) (by omega) (by omega) (by omega) hk (by omega)).mono fun _ _ h => h
/-- What Read leaves. -/
def TbRead (w : World) (r : List Int × Int) (e : Ending) (w' : World) : Prop := ∃ v, e = .returned (.tuple #[v, .int .i64 r.2]) ∧ CharOwn w' w.heap.size v r.1 ∧ Below w.heap.size w w'
theorem read_all {w : World} {T : Nat → Prop} {b N : Nat} {t : Tb} {pos n : Int} (h : TbAt w T b t) (hok : t.Ok N) (hN : N ≤ 100000)
    (hp : -9223372036854775808 ≤ pos ∧ pos ≤ 9223372036854775807) (hn : -9223372036854775808 ≤ n ∧ n ≤ 9223372036854775807) :
    Calls Try.prog 16 #[.pointer (some ⟨b, 0, none⟩), .int .i64 pos, .int .i64 n] w (TbRead w (t.read pos n)) := by
  have hlong := hok.n
  obtain ⟨x, y, z, hB⟩ := h.blk
  cases hi : inText t.long pos n with
  | false =>
    rw [Tb.read_no hi]
    refine (read_no hB (by omega) hp hn hi).mono ?_
    rintro e w' ⟨rfl, rfl⟩
    exact ⟨_, rfl, World.ownsRow_nil _ _ _ _, Below.refl _ _⟩
  | true =>
    have e1 : t.read pos n = (readL t.f t.s t.ps pos.toNat n.toNat, 0) := by unfold Tb.read; rw [if_pos hi]
    rw [e1]
    obtain ⟨p, m, rfl, rfl, hk⟩ := Tb.inText_iff.1 hi
    simp only [Int.toNat_natCast]
    have hf := hok.f
    have hs := hok.s
    have hp := hok.pcs
    have ht := hok.tot
    exact (read_any h hok.pin (by omega) (by omega) (by omega) (by omega) (by omega) hk).mono fun _ _ h => h
theorem text_all {w : World} {T : Nat → Prop} {b N : Nat} {t : Tb} (h : TbAt w T b t) (hok : t.Ok N) (hN : N ≤ 100000) :
    Calls Try.prog 24 #[.pointer (some ⟨b, 0, none⟩)] w (Texts w t.text) := by
  have hf := hok.f
  have hs := hok.s
  have hp := hok.pcs
  have ht := hok.tot
  have hlong := hok.n
  have h1 := text_any h hok.pin (by omega) (by omega) (by omega) (by omega) (by omega)
  rw [Tb.all_text hok] at h1
  exact h1
theorem pieces_all {w : World} {T : Nat → Prop} {b N : Nat} {t : Tb} (h : TbAt w T b t) (hok : t.Ok N) (hN : N ≤ 100000) :
    Calls Try.prog 26 #[.pointer (some ⟨b, 0, none⟩)] w (PiecesLeft w t.ps) := pieces_any h (by have := hok.pcs; omega)
theorem len_all {w : World} {T : Nat → Prop} {b : Nat} {t : Tb} (h : TbAt w T b t) :
    Calls Try.prog 23 #[.pointer (some ⟨b, 0, none⟩)] w fun e w' => e = .returned (.int .i64 (t.long : Int)) ∧ w = w' := by
  obtain ⟨x, y, z, hB⟩ := h.blk
  exact tab_Len hB
end Go.Proofs.Ytelaiafpfaohfaa
