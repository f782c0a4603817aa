/-
  piece.Table.has: the contract. No condition but a length far below what memory bears.
-/
import Derived.Test.YtelaiafpfaohfaaTab
namespace Go.Proofs.Ytelaiafpfaohfaa
open Go.RowKit
set_option linter.unusedSimpArgs false
set_option linter.unusedVariables false

theorem CharRd.mid {w : World} {S : Nat → Prop} {p : Option Addr} {c k m e : Nat} {l : List Int} (h : CharRd w S (.slice p l.length c) l) (he : e = k + m) (hk : e ≤ l.length) :
    CharRd w S (.slice (if e = k then p else p.map (·.add k)) m m) ((l.drop k).take m) := by
  subst he
  obtain ⟨hl, p', c', hv, h1, h2, h3⟩ := h
  injection hv with e1 _ e2
  subst e1; subst e2
  have hlk : ((l.drop k).take m).length = m := by rw [List.length_take, List.length_drop]; omega
  unfold CharRd
  rw [hlk]
  refine ⟨by rw [ccells_len, hlk]; omega, _, _, rfl, Nat.le_refl _, by omega, fun hm => ?_⟩
  obtain ⟨b', off, rfl, hb, hc⟩ := h3 (by omega)
  refine ⟨b', off + k, ?_, hb, fun j u hu => ?_⟩
  · rw [if_neg (by omega), map_add]
  · rw [ccells_take, List.getElem?_take] at hu
    split at hu
    · rw [ccells_drop, List.getElem?_drop] at hu
      rw [Nat.add_assoc]
      exact hc _ u hu
    · cases hu

theorem NilOk.mid {p q : Option Addr} {c n k e m : Nat} (h : NilOk (.slice p n c)) (hn : n ≤ c) (he : e = k + m) (hen : e ≤ n) (hq : (if e = k then p else p.map (·.add k)) = q) : NilOk (.slice q m m) := by
  intro n' c' hv
  injection hv with h1 h2 h3
  subst h3
  subst h1
  split at hq
  · omega
  · cases p with
    | none => have := h n c rfl; omega
    | some a => cases hq
/-- What has leaves. -/
def Has (w : World) (S : Nat → Prop) (l : List Int) (e : Ending) (w' : World) : Prop := ∃ q, e = .returned (.slice q l.length l.length) ∧ CharRd w' S (.slice q l.length l.length) l ∧ NilOk (.slice q l.length l.length) ∧ Below w.heap.size w w'

theorem has_end {w0 w' : World} {S : Nat → Prop} {m : Nat} {l : List Int} {q : Option Addr} (hq : m = l.length) (h : CharRd w' S (.slice q m m) l) (hn : NilOk (.slice q m m)) (hX : Below w0.heap.size w0 w') : Has w0 S l (.returned (.slice q m m)) w' := by
  subst hq
  exact ⟨_, rfl, h, hn, hX⟩
set_option maxHeartbeats 1600000 in
theorem has_any {w : World} {S : Nat → Prop} {b : Nat} {f s : List Int} {ps : List Pc} {n : Nat} {p : Pc} (h : TabS w S b f s ps n) (hl : p.at_ + p.len ≤ (if p.second then s else f).length) (hb : p.at_ + p.len ≤ 70368744177664) :
    Calls Try.prog 40 #[.pointer (some ⟨b, 0, none⟩), .agg #[.bool p.second, .int .i64 p.at_, .int .i64 p.len]] w (Has w S (((if p.second then s else f).drop p.at_).take p.len)) := by
  obtain ⟨vf, vs, vp, hB, hf, hs, hp, hnf, hns⟩ := h
  obtain ⟨pf, cf, rfl⟩ := Rd.slice hf
  obtain ⟨qs, cs, rfl⟩ := Rd.slice hs
  obtain ⟨sec, at_, ln⟩ := p
  simp only at hl hb
  have hbA := (Below.refl w.heap.size w).alloc (Nat.le_refl _) (.cells #[.bool sec, .int .i64 at_, .int .i64 ln] 58)
  obtain ⟨g0, g1, g2, -, -, -, -⟩ := (Blk.new w 58 #[.bool sec, .int .i64 at_, .int .i64 ln]).c3
  have hB2 := hB.alloc (.cells #[.bool sec, .int .i64 at_, .int .i64 ln] 58)
  have a0 := hB2.cell 0
  have a1 := hB2.cell 1
  simp only [List.getElem?_toArray, List.getElem?_cons_zero, List.getElem?_cons_succ] at a0 a1
  have Hf := Lib.hid (Rd.below hf (by decide) hbA)
  have Hs := Lib.hid (Rd.below hs (by decide) hbA)
  have HX := Lib.hid hbA
  obtain ⟨e1, he1⟩ : ∃ e, e = at_ + ln := ⟨_, rfl⟩
  have hw : IntKind.i64.wrap ((at_ : Int) + (ln : Int)) = (e1 : Int) := by rw [IntKind.wrap_i64]; omega
  have hle1 : (at_ : Int) ≤ (e1 : Int) := by omega
  have He1 := Lib.hid he1
  rw [← he1] at hl
  have Hnf := Lib.hid hnf
  have Hns := Lib.hid hns
  have hcs : s.length ≤ cs := by obtain ⟨_, _, _, h, h1, _⟩ := hs; injection h with _ _ h; omega
  have hcf : f.length ≤ cf := by obtain ⟨_, _, _, h, h1, _⟩ := hf; injection h with _ _ h; omega
  clear hB hf hs hp hB2 hbA he1 hnf hns
  cases sec
  · have hl' : e1 ≤ f.length := hl
    have hec : (e1 : Int) ≤ (cf : Int) := by omega
    have hee : (e1 : Int) ≤ (e1 : Int) := Int.le_refl _
    show Calls _ _ _ _ (Has w S ((f.drop at_).take ln))
    clear hl
    obtain ⟨q, hq⟩ : ∃ q, (if e1 = at_ then pf else pf.map (·.add at_)) = q := ⟨_, rfl⟩
    obtain ⟨m, hm⟩ : ∃ m, e1 - at_ = m := ⟨_, rfl⟩
    have hml : m = ln := by have := He1.out; omega
    have hmd := CharRd.mid Hf.out He1.out hl'
    rw [hq, ← hml] at hmd
    have Hmd := Lib.hid hmd
    have Hnl := Lib.hid (NilOk.mid Hnf.out hcf (show e1 = at_ + m from by rw [hml]; exact He1.out) hl' hq)
    have Hlen := Lib.hid (show m = ((f.drop at_).take ln).length from by have := He1.out; rw [List.length_take, List.length_drop]; omega)
    have Hml := Lib.hid hml
    clear hmd hml
    go_enter Try.func40, Try.ntmps40
    go_wp2_with fail
    go_ret
    exact has_end Hlen.out (by have h := Hmd.out; rw [Hml.out] at h ⊢; exact h) Hnl.out HX.out
  · have hl' : e1 ≤ s.length := hl
    have hec : (e1 : Int) ≤ (cs : Int) := by omega
    have hee : (e1 : Int) ≤ (e1 : Int) := Int.le_refl _
    show Calls _ _ _ _ (Has w S ((s.drop at_).take ln))
    clear hl
    obtain ⟨q, hq⟩ : ∃ q, (if e1 = at_ then qs else qs.map (·.add at_)) = q := ⟨_, rfl⟩
    obtain ⟨m, hm⟩ : ∃ m, e1 - at_ = m := ⟨_, rfl⟩
    have hml : m = ln := by have := He1.out; omega
    have hmd := CharRd.mid Hs.out He1.out hl'
    rw [hq, ← hml] at hmd
    have Hmd := Lib.hid hmd
    have Hnl := Lib.hid (NilOk.mid Hns.out hcs (show e1 = at_ + m from by rw [hml]; exact He1.out) hl' hq)
    have Hlen := Lib.hid (show m = ((s.drop at_).take ln).length from by have := He1.out; rw [List.length_take, List.length_drop]; omega)
    have Hml := Lib.hid hml
    clear hmd hml
    go_enter Try.func40, Try.ntmps40
    go_wp2_with fail
    go_ret
    exact has_end Hlen.out (by have h := Hmd.out; rw [Hml.out] at h ⊢; exact h) Hnl.out HX.out
end Go.Proofs.Ytelaiafpfaohfaa
