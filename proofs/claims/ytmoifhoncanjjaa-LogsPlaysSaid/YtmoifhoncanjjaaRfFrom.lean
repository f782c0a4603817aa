/-
  The reference's From: the contracts.
-/
import Derived.Test.YtmoifhoncanjjaaRfGet
namespace Go.Proofs.Ytmoifhoncanjjaa
open Go.RowKit
set_option linter.unusedSimpArgs false

theorem outs_yes {es : List Ent} {k j : Nat} (h : j < es.length) (hk : k ≤ j) : (es.take (j + 1)).drop k = (es.take j).drop k ++ [es[j]] := by
  rw [take_snoc es j h, List.drop_append_of_le_length (by rw [List.length_take]; omega)]
theorem outs_no {es : List Ent} {k j : Nat} (hk : j < k) : (es.take (j + 1)).drop k = (es.take j).drop k := by
  rw [List.drop_eq_nil_of_le (by rw [List.length_take]; omega), List.drop_eq_nil_of_le (by rw [List.length_take]; omega)]

set_option maxHeartbeats 1600000 in
theorem ref_From {w : World} {S : Nat → Prop} {b k : Nat} {m op : Int} {es : List Ent} (h : RLog w S b m es) (h2 : es.length ≤ 64) (hf : Fits es) (hk : k ≤ es.length) (hop : op = m + k) :
    Calls Try.prog 45 #[.pointer (some ⟨b, 0, none⟩), .int .u64 op] w fun x w' => ∃ p c, x = .returned (.tuple #[.slice p (es.drop k).length c, .int .i64 0]) ∧
      EntsOwn w' w.heap.size (.slice p (es.drop k).length c) (es.drop k) ∧ Below w.heap.size w w' := by
  have hw : withinE m es.length op = 0 := by unfold withinE; rw [if_neg (by omega), if_neg (by omega)]
  have HW := Lib.hid hw
  have Hop := Lib.hid hop
  have H := Lib.hid h
  have Hf := Lib.hid hf
  clear h hw hf hop
  go_enter Try.func45, Try.ntmps45
  go_wp2_with fail
  refine (ref_within (op := op) H.out h2).mono ?_
  rintro x w1 ⟨rfl, hb1⟩
  rw [HW.out]
  have HX1 := Lib.hid hb1
  clear hb1
  go_wp2_with fail
  go_loopw [7, 8] (fun out i wr => ∃ (j n : Nat) (p : Option Addr) (c : Nat), j ≤ es.length ∧ i = .int .i64 j ∧ out = .slice p n c ∧ n = ((es.take j).drop k).length ∧ n ≤ j ∧ EntsOwn wr w.heap.size out ((es.take j).drop k) ∧ Below w.heap.size w wr) (fun _ i _ => es.length - (intOf i).toNat)
  case atStart => exact ⟨0, 0, none, 0, Nat.zero_le _, rfl, rfl, by simp, Nat.le_refl _, ⟨[], by simpa using World.ownsRow_nil _ _ _ _, by simpa using Els.nil _ _⟩, HX1.out⟩
  case round =>
    obtain ⟨j, n, p1, c1, hj, rfl, rfl, hn, hnj, hown, hb⟩ := hrel
    obtain ⟨p, c, hB, hI, -⟩ := H.out
    obtain ⟨a0, a1, f0, f1, hz⟩ := (hB.below hb).c2
    have Ho := Lib.hid hown
    have Hb := Lib.hid hb
    have Hn := Lib.hid hn
    clear hown hn hB
    by_cases hlt : j < es.length
    · obtain ⟨g, off, s, rfl, hc1, hc2, hg, hq, d0, d1, d2, d3, d4⟩ := (hI.below hb).at hlt
      obtain ⟨sp, sc, rfl⟩ := Rd.slice hq.1
      have Hq := Lib.hid hq
      clear hq hg hI hb
      by_cases hkj : k ≤ j
      · have ht : decide (op < m + (j : Int) + 1) = true := by have := Hop.out; simp; omega
        have Hs := Lib.hid (outs_yes hlt hkj)
        clear hkj
        go_wp2_with fail
        refine (ref_Own es[j] Hq.out (Hf.out _ (List.getElem_mem _))).mono ?_
        rintro x w2 ⟨p2, c2, rfl, ho, hb⟩
        have hk2 : Below wr.heap.size wr w2 := hb
        obtain ⟨cs', hw', hE'⟩ := EntsOwn.below Ho.out hk2
        rw [← Hn.out] at hw'
        have Hs2 := Lib.hid (own_base ho (base' := w.heap.size) Hb.out.size)
        have HO := Lib.hid (own_alloc hw' (.cells #[.int .u64 es[j].t, .int .u32 es[j].c, .int .u64 es[j].r, .slice p2 es[j].cmd.length c2] 33))
        have HE' := Lib.hid hE'
        have hbz : w.heap.size ≤ w2.heap.size := Nat.le_trans Hb.out.size hb.size
        have Hbz := Lib.hid hbz
        have HX2 := Lib.hid (Hb.out.trans (hb.mono Hb.out.size))
        clear ho hb hk2 hw' hE' hbz
        unfold entVal
        go_wp2_with (at_builtin; go_loud (refine wpList_append_N rfl _ _ 23 rfl w.heap.size 33 (.agg #[.int .u64 0, .int .u32 0, .int .u64 0, .slice none 0 0]) 4 48 Try.underlying23 infoE rfl (by decide) (.slice p1 n c1) n cs' (fun i => i = w2.heap.size) rfl HO.out (some ⟨w2.heap.size, 0, none⟩) 1 1 [.int .u64 es[j].t, .int .u32 es[j].c, .int .u64 es[j].r, .slice p2 es[j].cmd.length c2] rfl (Rd.made1 w2 _ 4 [.int .u64 es[j].t, .int .u32 es[j].c, .int .u64 es[j].r, .slice p2 es[j].cmd.length c2] rfl) (by intro u hu; simp at hu; rcases hu with rfl | rfl | rfl | rfl <;> rfl) NilOk.some (by unfold maxLen; omega) (by omega) (by have := Hbz.out; rw [World.size_alloc]; omega) ?_))
        intro v' w3 hown hgrow
        obtain ⟨p3, c3, rfl⟩ := own_slice hown
        have hlen : ((es.take (j + 1)).drop k).length = n + 1 := by rw [Hs.out, List.length_append, ← Hn.out]; rfl
        have hfin : EntsOwn w3 w.heap.size (.slice p3 (n + 1) c3) ((es.take (j + 1)).drop k) := by
          have h0 := HO.out
          rw [Hn.out] at h0
          rw [Hs.out]
          refine EntsOwn.snoc h0 (HE'.out.imp fun c e _ ⟨s, hs, hq⟩ => ⟨s, hs, own_alloc hq _⟩) (own_alloc Hs2.out _) (by rw [Hn.out] at hgrow; exact hgrow) ?_
          rw [← Hn.out]
          exact hown
        have hbl : Below w.heap.size w w3 := (HX2.out.alloc Hbz.out _).grown hgrow (by have := Hbz.out; rw [World.size_alloc]; omega) (by intro i hi; exact (HO.out.lt i hi).1)
        have Hfin := Lib.hid hfin
        have Hbl := Lib.hid hbl
        have Hlen := Lib.hid hlen
        clear hown hgrow hfin hbl hlen
        go_wp2_with fail
        go_roundw
        case rel => exact ⟨j + 1, n + 1, p3, c3, by omega, by go_num, rfl, Hlen.out.symm, by omega, Hfin.out, Hbl.out⟩
        case measure => simp [intOf]; omega
      · have ht : decide (op < m + (j : Int) + 1) = false := by have := Hop.out; simp; omega
        have Hs := Lib.hid (outs_no (es := es) (Nat.lt_of_not_le hkj))
        clear hkj
        go_wp2_with fail
        go_roundw
        case rel => exact ⟨j + 1, n, p1, c1, by omega, by go_num, rfl, by rw [Hs.out]; exact Hn.out, by omega, by rw [Hs.out]; exact Ho.out, Hb.out⟩
        case measure => simp [intOf]; omega
    · obtain rfl : j = es.length := by omega
      clear hI hb
      have h1 := Hn.out
      have h2 := Ho.out
      rw [List.take_length] at h1 h2
      subst h1
      have H2 := Lib.hid h2
      clear h2
      go_wp2_with fail
      go_ret2
      exact ⟨p1, c1, rfl, H2.out, Hb.out⟩

set_option maxHeartbeats 800000 in
theorem ref_From_no {w : World} {S : Nat → Prop} {b : Nat} {m op : Int} {es : List Ent} (h : RLog w S b m es) (h2 : es.length ≤ 64) (hw : withinE m es.length op ≠ 0) :
    Calls Try.prog 45 #[.pointer (some ⟨b, 0, none⟩), .int .u64 op] w fun x w' => x = .returned (.tuple #[.slice none 0 0, .int .i64 (withinE m es.length op)]) ∧ Below w.heap.size w w' := by
  have ht : (withinE m es.length op == 0) = false := by simpa using hw
  have H := Lib.hid h
  clear h hw
  go_enter Try.func45, Try.ntmps45
  go_wp2_with fail
  refine (ref_within (op := op) H.out h2).mono ?_
  rintro x w1 ⟨rfl, hb1⟩
  generalize hE : withinE m es.length op = e at ht ⊢
  have HE := Lib.hid hE
  have Hb := Lib.hid hb1
  clear hE hb1
  go_wp2_with fail
  go_ret2
  exact ⟨by rw [HE.out]; rfl, Hb.out⟩
end Go.Proofs.Ytmoifhoncanjjaa
