/-
  The reference's Cut and Trim: the contracts.
-/
import Derived.Test.YtmoifhoncanjjaaRfPart
namespace Go.Proofs.Ytmoifhoncanjjaa
open Go.RowKit
set_option linter.unusedSimpArgs false

theorem its_ops : ∀ (m : Int) (es : List Ent) (x : It), x ∈ its m es → m < x.op
  | m, e :: es, x, h => by
    simp only [its, List.mem_cons] at h
    rcases h with rfl | h
    · show m < m + 1; omega
    · have := its_ops (m + 1) es x h; omega
theorem partOf_true : ∀ (m : Int) (k : Nat) (es : List Ent), k ≤ es.length → partOf (m + k) true (its m es) = its (m + k) (es.drop k)
  | m, 0, es, _ => by
    unfold partOf
    rw [List.drop_zero, List.filter_eq_self.2]
    · simp
    · intro x hx
      have := its_ops _ _ _ hx
      simpa using this
  | m, k + 1, e :: es, h => by
    have ih := partOf_true (m + 1) k es (by simpa using h)
    have e1 : m + 1 + (k : Int) = m + ((k + 1 : Nat) : Int) := by push_cast; omega
    rw [e1] at ih
    have hf : (decide (m + ((k + 1 : Nat) : Int) < m + 1) == true) = false := by simp; omega
    simp only [List.drop_succ_cons, its, partOf, List.filter_cons, hf] at ih ⊢
    simpa using ih
theorem partOf_false : ∀ (m : Int) (k : Nat) (es : List Ent), k ≤ es.length → partOf (m + k) false (its m es) = its m (es.take k)
  | m, 0, es, _ => by
    unfold partOf
    rw [List.take_zero, List.filter_eq_nil_iff.2]
    · rfl
    · intro x hx
      have := its_ops _ _ _ hx
      simp
      omega
  | m, k + 1, e :: es, h => by
    have ih := partOf_false (m + 1) k es (by simpa using h)
    have e1 : m + 1 + (k : Int) = m + ((k + 1 : Nat) : Int) := by push_cast; omega
    rw [e1] at ih
    have hf : (decide (m + ((k + 1 : Nat) : Int) < m + 1) == false) = true := by simp; omega
    simp only [List.take_succ_cons, its, partOf, List.filter_cons, hf] at ih ⊢
    simpa using ih

/-- What a method that writes the log leaves. -/
def RCutTo (S : Nat → Prop) (b : Nat) (m : Int) (es : List Ent) (w w' : World) : Prop := RLog w' (More S w w') b m es ∧ Ext (· = b) w w'

theorem ItsOwn.rd {w0 w : World} {S : Nat → Prop} {v : Value} {l : List It} (h : ItsOwn w0 w S w0.heap.size v l) (hb : Below w0.heap.size w0 w) : ItsRd w (More S w0 w) v l := by
  obtain ⟨cs, ho, hE⟩ := h
  exact ⟨⟨cs, Rd.weak (Rd.of_own ho) (fun k hk _ => .inr hk) (by decide), hE.imp fun c e _ ⟨s, hs, hq⟩ => ⟨s, hs, hq.keep (fun k hk _ => hb.block k hk) (fun k hS hk => .inl ⟨hS, hk⟩)⟩⟩, NilOk.own ho⟩

theorem More.from_ {S : Nat → Prop} {w w1 w2 : World} (h : w.heap.size ≤ w1.heap.size) (h' : w1.heap.size ≤ w2.heap.size) (k : Nat) (hk : More S w1 w2 k) : More S w w2 k := by
  rcases hk with hk | hk
  · by_cases hl : k < w.heap.size
    · exact .inl ⟨hk.1, hl⟩
    · exact .inr ⟨by omega, by omega⟩
  · exact .inr ⟨by omega, hk.2⟩

/-- A new list is stored into the log's block. -/
theorem RLog.stored {w w4 : World} {S : Nat → Prop} {b : Nat} {m0 m : Int} {v0 : Value} {es : List Ent} {p : Option Addr} {c : Nat}
    (hb : b < w.heap.size) (kb : Blk w4 b 58 #[.int .u64 m0, v0]) (hE : ItsRd w4 (More S w w4) (.slice p es.length c) (its m es)) (hSb : ¬ S b) (hX : Below w.heap.size w w4) :
    RCutTo S b m es w ((w4.setCell ⟨b, 1, none⟩ (.slice p es.length c)).setCell ⟨b, 0, none⟩ (.int .u64 m)) ∧ (m0 = m → RCutTo S b m es w (w4.setCell ⟨b, 1, none⟩ (.slice p es.length c))) := by
  have hsz : ∀ (u : Value) i, (w4.setCell ⟨b, i, none⟩ u).heap.size = w4.heap.size := by intro u i; simp [World.setCell]
  have hz := hX.size
  have kb1 : Blk (w4.setCell ⟨b, 1, none⟩ (.slice p es.length c)) b 58 #[.int .u64 m0, .slice p es.length c] := by simpa using kb.set_ 1 (.slice p es.length c)
  have kb2 : Blk ((w4.setCell ⟨b, 1, none⟩ (.slice p es.length c)).setCell ⟨b, 0, none⟩ (.int .u64 m)) b 58 #[.int .u64 m, .slice p es.length c] := by simpa using kb1.set_ 0 (.int .u64 m)
  have hne : ∀ k, More S w w4 k → k ≠ b := by
    rintro k (h | h) rfl
    · exact hSb h.1
    · omega
  have x1 : Ext (· = b) w (w4.setCell ⟨b, 1, none⟩ (.slice p es.length c)) := (Ext.of_below _ hX).set1 rfl
  have e1 : ItsRd (w4.setCell ⟨b, 1, none⟩ (.slice p es.length c)) (More S w w4) (.slice p es.length c) (its m es) := hE.keep (fun k _ hS => heap_setCell_other w4 ⟨b, 1, none⟩ k _ (hne k hS)) (fun _ h _ => h)
  have e2 : ItsRd ((w4.setCell ⟨b, 1, none⟩ (.slice p es.length c)).setCell ⟨b, 0, none⟩ (.int .u64 m)) (More S w w4) (.slice p es.length c) (its m es) := e1.keep (fun k _ hS => heap_setCell_other _ ⟨b, 0, none⟩ k _ (hne k hS)) (fun _ h _ => h)
  have hnb : ∀ w5 : World, ¬ More S w w5 b := by
    rintro w5 (h | h)
    · exact hSb h.1
    · omega
  refine ⟨⟨⟨p, c, kb2, e2.keep (fun _ _ _ => rfl) (fun k h _ => h.imp id fun h => ⟨h.1, ?_⟩), hnb _⟩, x1.set1 rfl⟩, ?_⟩
  · have := h.2; simp [World.setCell]; simpa [World.setCell] using this
  · rintro rfl
    exact ⟨⟨p, c, kb1, e1.keep (fun _ _ _ => rfl) (fun k h _ => h.imp id fun h => ⟨h.1, by rw [hsz]; exact h.2⟩), hnb _⟩, x1⟩

set_option maxHeartbeats 800000 in
theorem ref_Cut {w : World} {S : Nat → Prop} {b k : Nat} {m : Int} {es : List Ent} (h : RLog w S b m es) (h2 : es.length ≤ 64) (hk : k ≤ es.length) :
    Calls Try.prog 25 #[.pointer (some ⟨b, 0, none⟩), .int .u64 (m + k)] w fun x w' => x = .returned (.int .i64 0) ∧ RCutTo S b (m + k) (es.drop k) w w' := by
  have hw : withinE m es.length (m + k) = 0 := by unfold withinE; rw [if_neg (by omega), if_neg (by omega)]
  have hz : b < w.heap.size := by obtain ⟨p, c, hB, -⟩ := h; exact hB.lt
  have hS : ¬ S b := by obtain ⟨p, c, -, -, hS⟩ := h; exact hS
  have hp := partOf_true m k es hk
  have H := Lib.hid h
  have Hw := Lib.hid hw
  have HS := Lib.hid hS
  have Hp := Lib.hid hp
  clear h hw hS hp
  go_enter Try.func25, Try.ntmps25
  go_wp2_with fail
  refine (ref_within (op := m + k) H.out h2).mono ?_
  rintro x w1 ⟨rfl, hb⟩
  rw [Hw.out]
  have Hb := Lib.hid hb
  clear hb
  go_wp2_with fail
  refine (ref_part (op := m + k) (ab := true) (H.out.below Hb.out) h2).mono ?_
  rintro x w2 ⟨p, c, rfl, ho, hb⟩
  rw [Hp.out] at ho
  rw [Hp.out]
  rw [its_len] at ho ⊢
  have hE : ItsRd w2 (More S w w2) (.slice p (es.drop k).length c) (its (m + k) (es.drop k)) := (ho.rd hb).keep (fun _ _ _ => rfl) (fun k hk _ => More.from_ Hb.out.size hb.size k hk)
  have hX : Below w.heap.size w w2 := Hb.out.trans (hb.mono Hb.out.size)
  obtain ⟨p0, c0, hB, -⟩ := H.out.below hX
  have hst := (RLog.stored (m := (m + k)) (p := p) (c := c) (es := es.drop k) hz hB hE HS.out hX).1
  obtain ⟨a0, a1, f0, f1, hz1⟩ := hB.c2
  have Hst := Lib.hid hst
  clear ho hE hB hst hb hX Hp
  generalize hq : es.drop k = q at Hst ⊢
  have HQ := Lib.hid hq
  clear hq
  go_wp2_with fail
  go_ret
  exact ⟨rfl, by rw [HQ.out]; exact Hst.out⟩
set_option maxHeartbeats 800000 in
theorem ref_Trim {w : World} {S : Nat → Prop} {b k : Nat} {m : Int} {es : List Ent} (h : RLog w S b m es) (h2 : es.length ≤ 64) (hk : k ≤ es.length) :
    Calls Try.prog 26 #[.pointer (some ⟨b, 0, none⟩), .int .u64 (m + k)] w fun x w' => x = .returned (.int .i64 0) ∧ RCutTo S b m (es.take k) w w' := by
  have hw : withinE m es.length (m + k) = 0 := by unfold withinE; rw [if_neg (by omega), if_neg (by omega)]
  have hz : b < w.heap.size := by obtain ⟨p, c, hB, -⟩ := h; exact hB.lt
  have hS : ¬ S b := by obtain ⟨p, c, -, -, hS⟩ := h; exact hS
  have hp := partOf_false m k es hk
  have H := Lib.hid h
  have Hw := Lib.hid hw
  have HS := Lib.hid hS
  have Hp := Lib.hid hp
  clear h hw hS hp
  go_enter Try.func26, Try.ntmps26
  go_wp2_with fail
  refine (ref_within (op := m + k) H.out h2).mono ?_
  rintro x w1 ⟨rfl, hb⟩
  rw [Hw.out]
  have Hb := Lib.hid hb
  clear hb
  go_wp2_with fail
  refine (ref_part (op := m + k) (ab := false) (H.out.below Hb.out) h2).mono ?_
  rintro x w2 ⟨p, c, rfl, ho, hb⟩
  rw [Hp.out] at ho
  rw [Hp.out]
  rw [its_len] at ho ⊢
  have hE : ItsRd w2 (More S w w2) (.slice p (es.take k).length c) (its m (es.take k)) := (ho.rd hb).keep (fun _ _ _ => rfl) (fun k hk _ => More.from_ Hb.out.size hb.size k hk)
  have hX : Below w.heap.size w w2 := Hb.out.trans (hb.mono Hb.out.size)
  obtain ⟨p0, c0, hB, -⟩ := H.out.below hX
  have hst := (RLog.stored (m := m) (p := p) (c := c) (es := es.take k) hz hB hE HS.out hX).2 rfl
  obtain ⟨a0, a1, f0, f1, hz1⟩ := hB.c2
  have Hst := Lib.hid hst
  clear ho hE hB hst hb hX Hp
  generalize hq : es.take k = q at Hst ⊢
  have HQ := Lib.hid hq
  clear hq
  go_wp2_with fail
  go_ret
  exact ⟨rfl, by rw [HQ.out]; exact Hst.out⟩

set_option maxHeartbeats 800000 in
theorem ref_Cut_no {w : World} {S : Nat → Prop} {b : Nat} {m op : Int} {es : List Ent} (h : RLog w S b m es) (h2 : es.length ≤ 64) (hw : withinE m es.length op ≠ 0) :
    Calls Try.prog 25 #[.pointer (some ⟨b, 0, none⟩), .int .u64 op] w fun x w' => x = .returned (.int .i64 (withinE m es.length op)) ∧ Below w.heap.size w w' := by
  have ht : (withinE m es.length op == 0) = false := by simpa using hw
  have H := Lib.hid h
  clear h hw
  go_enter Try.func25, Try.ntmps25
  go_wp2_with fail
  refine (ref_within (op := op) H.out h2).mono ?_
  rintro x w1 ⟨rfl, hb⟩
  have Hb := Lib.hid hb
  clear hb
  generalize hE : withinE m es.length op = e at ht ⊢
  have HE := Lib.hid hE
  clear hE
  go_wp2_with fail
  go_ret
  exact ⟨by rw [HE.out]; rfl, Hb.out⟩

set_option maxHeartbeats 800000 in
theorem ref_Trim_no {w : World} {S : Nat → Prop} {b : Nat} {m op : Int} {es : List Ent} (h : RLog w S b m es) (h2 : es.length ≤ 64) (hw : withinE m es.length op ≠ 0) :
    Calls Try.prog 26 #[.pointer (some ⟨b, 0, none⟩), .int .u64 op] w fun x w' => x = .returned (.int .i64 (withinE m es.length op)) ∧ Below w.heap.size w w' := by
  have ht : (withinE m es.length op == 0) = false := by simpa using hw
  have H := Lib.hid h
  clear h hw
  go_enter Try.func26, Try.ntmps26
  go_wp2_with fail
  refine (ref_within (op := op) H.out h2).mono ?_
  rintro x w1 ⟨rfl, hb⟩
  have Hb := Lib.hid hb
  clear hb
  generalize hE : withinE m es.length op = e at ht ⊢
  have HE := Lib.hid hE
  clear hE
  go_wp2_with fail
  go_ret
  exact ⟨by rw [HE.out]; rfl, Hb.out⟩
end Go.Proofs.Ytmoifhoncanjjaa
