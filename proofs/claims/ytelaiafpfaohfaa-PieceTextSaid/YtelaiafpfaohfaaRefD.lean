/-
  The reference's Delete: the contract. No condition but bounds far below what memory bears.
-/
import Derived.Test.YtelaiafpfaohfaaRefI
namespace Go.Proofs.Ytelaiafpfaohfaa
open Go.RowKit
set_option linter.unusedSimpArgs false
set_option linter.unusedVariables false

set_option maxHeartbeats 6400000 in
set_option maxRecDepth 100000 in
theorem rf_del_in {w : World} {S : Nat → Prop} {b a n : Nat} {l1 l2 l3 : List On} (h : RfAt w S b ⟨l1 ++ l2 ++ l3, a⟩) (hS : ¬ S b) (hn2 : n = l2.length)
    (h1 : l1.length ≤ 100000) (h2 : l2.length ≤ 100000) (h3 : l3.length ≤ 100000) :
    Calls Try.prog 15 #[.pointer (some ⟨b, 0, none⟩), .int .i64 l1.length, .int .i64 n] w (RfDone w S b (0, ⟨l1 ++ l3, a⟩)) := by
  have hr := rf_right (pos := (l1.length : Int)) (n := (n : Int)) h (by simp; omega) (by omega) (by omega)
  rw [show inText (l1 ++ l2 ++ l3).length l1.length n = true from by unfold inText; exact decide_eq_true (by simp; omega)] at hr
  obtain ⟨p, c, hB, hL, hn, hc, hcm⟩ := h.form
  obtain ⟨N, hN⟩ : ∃ N, N = l1.length + l2.length + l3.length := ⟨_, rfl⟩
  have hLN : (l1 ++ l2 ++ l3).length = N := by rw [List.length_append, List.length_append, hN]
  simp only at hB hL hn hc hcm hr
  rw [hLN] at hB hL hn hc
  obtain ⟨k2, hk2⟩ : ∃ k, k = (l1 ++ l2).length := ⟨_, rfl⟩
  have hk2' : k2 = l1.length + n := by rw [hk2, List.length_append, hn2]
  obtain ⟨q, hq⟩ : ∃ q, (if c = k2 then p else p.map (·.add (k2 * 3))) = q := ⟨_, rfl⟩
  obtain ⟨c2, hc2⟩ : ∃ c2, c - k2 = c2 := ⟨_, rfl⟩
  have hm : N - k2 = l3.length := by omega
  have HL := Lib.hid (OnsRd.parts (l1 := l1 ++ l2) (l2 := l3) (q := q) (c' := c2) (m := l3.length) hL (by rw [hN, List.length_append]) (by rw [← hk2]; exact hq) (by rw [← hk2]; exact hc2) (by rw [← hk2]; exact hm)).2
  have HL1 := Lib.hid (OnsRd.parts (l1 := l1) (l2 := l2 ++ l3) (q := _) (c' := _) (m := _) (by rw [← List.append_assoc]; exact hL) (by rw [hN, List.length_append]; omega) rfl rfl rfl).1
  have Hn1 := Lib.hid (NilOk.front (k := l1.length) hn)
  have Hn2 := Lib.hid (NilOk.cutq (m := l3.length) hn hq hc2)
  have HB := Lib.hid hB
  have hb := hB.lt
  have a0 : w.cell? ⟨b, 0, none⟩ = some (.slice p N c) := hB.cell 0
  have hlc : (l1.length : Int) ≤ (c : Int) := by omega
  have hNc : (N : Int) ≤ (c : Int) := by omega
  have hkN : (k2 : Int) ≤ (N : Int) := by omega
  have hw1 : IntKind.i64.wrap ((l1.length : Int) + (n : Int)) = (k2 : Int) := by rw [IntKind.wrap_i64]; omega
  unfold maxLen at hcm
  have Hr := Lib.hid hr
  have hn1 : n ≤ 100000 := by omega
  clear hB hL hn h hN hLN hk2 hr hk2' hn2
  go_enter Try.func15, Try.ntmps15
  go_wp2_with fail
  refine Hr.out.mono ?_
  rintro e w' ⟨rfl, rfl⟩
  go_wp2_with (at_builtin; first | (refine wpList_append_O rfl (.tmp 13) (.tmp 19) rfl w.heap.size (.slice none 0 0) [] l1 S rfl (World.ownsRow_nil _ _ _ _) p c rfl HL1.out Hn1.out (by simp; omega) (Nat.le_refl _) ?_; intro v1 w1 ho1 hg1; obtain ⟨n1, p1, c1, rfl⟩ : ∃ n p c, v1 = .slice p n c := (by obtain ⟨p, c, h⟩ := own_slice ho1; exact ⟨_, p, c, h⟩); have HO1 := Lib.hid ho1; have HX1 := Lib.hid ((Below.refl w.heap.size w).grown hg1 (Nat.le_refl _) (fun k hk => by simp [Value.ownBlock] at hk)); have HB1 := Lib.hid (HB.out.below HX1.out); have HL2 := Lib.hid (Rd.below HL.out (by decide) HX1.out); have g0 : w1.cell? ⟨b, 0, none⟩ = some (.slice p N c) := HB1.out.cell 0; clear ho1 hg1) | (refine wpList_append_O rfl (.tmp 22) (.tmp 30) rfl w.heap.size (.slice p1 n1 c1) l1 l3 S rfl HO1.out q c2 rfl HL2.out Hn2.out (by omega) HX1.out.size ?_; intro v4 w4 ho4 hg4; obtain ⟨n4, p4, c4, rfl⟩ : ∃ n p c, v4 = .slice p n c := (by obtain ⟨p, c, h⟩ := own_slice ho4; exact ⟨_, p, c, h⟩); have HO4 := Lib.hid ho4; have HX4 := Lib.hid (HX1.out.grown hg4 HX1.out.size (fun j hj => (HO1.out.lt j hj).1)); have HB4 := Lib.hid (HB1.out.grown hg4 (own_far HO1.out hb)); have g0 : w4.cell? ⟨b, 0, none⟩ = some (.slice p N c) := HB4.out.cell 0; have g1 : w4.frozen? ⟨b, 0, none⟩ = false := HB4.out.frozen 0; clear ho4 hg4))
  go_ret
  have hB5 := HB4.out.set_ 0 (.slice p4 n4 c4)
  have hO5 := own_set HO4.out HB4.out (by decide) 0 (.slice p4 n4 c4)
  have hX5 := (Ext.of_below (fun k => k = b) HX4.out).set1 (g := b) (i := 0) (a := .slice p4 n4 c4) rfl
  exact ⟨rfl, ⟨_, hB5, Rd.weak (Rd.of_own hO5) (fun k hk _ => .inr hk.1) (by decide), NilOk.own hO5⟩, hX5⟩

theorem rf_del {w : World} {S : Nat → Prop} {b : Nat} {r : Rf} {pos n : Int} (h : RfAt w S b r) (hS : ¬ S b)
    (h1 : r.L.length ≤ 100000) (hp : -9223372036854775808 ≤ pos ∧ pos ≤ 9223372036854775807) (hn : -9223372036854775808 ≤ n ∧ n ≤ 9223372036854775807) :
    Calls Try.prog 15 #[.pointer (some ⟨b, 0, none⟩), .int .i64 pos, .int .i64 n] w (RfDone w S b (r.del pos n)) := by
  cases hi : inText r.L.length pos n with
  | true =>
    obtain ⟨L, a⟩ := r
    obtain ⟨k, m, rfl, rfl, hk⟩ := Tb.inText_iff.1 hi
    simp only at hk h1 hi
    obtain ⟨l1, l2, l3, hL, e1, e2⟩ : ∃ l1 l2 l3, L = l1 ++ l2 ++ l3 ∧ k = l1.length ∧ m = l2.length := by
      refine ⟨L.take k, (L.drop k).take m, L.drop (k + m), ?_, ?_, ?_⟩
      · rw [List.append_assoc, ← List.drop_drop, List.take_append_drop, List.take_append_drop]
      · rw [List.length_take]; omega
      · rw [List.length_take, List.length_drop]; omega
    subst hL
    subst e1
    have e : Rf.del ⟨l1 ++ l2 ++ l3, a⟩ (l1.length : Int) (m : Int) = (0, ⟨l1 ++ l3, a⟩) := by
      unfold Rf.del
      rw [if_pos hi]
      simp only [Int.toNat_natCast]
      congr 2
      rw [e2, List.append_assoc, List.take_left, ← List.append_assoc, ← List.length_append, List.drop_left]
    rw [e]
    simp only [List.length_append] at h1
    exact rf_del_in h hS e2 (by omega) (by omega) (by omega)
  | false =>
    rw [show r.del pos n = (30, r) from by unfold Rf.del; rw [hi]; rfl]
    refine (rf_del_no h (by omega) hp hn hi).mono ?_
    rintro e w' ⟨rfl, rfl⟩
    exact ⟨rfl, h.weak (fun _ h _ => .inl h), Ext.refl _ _⟩
end Go.Proofs.Ytelaiafpfaohfaa
