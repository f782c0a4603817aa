/-
  The reference's Get and From: the contracts.
-/
import Derived.Test.YtmoifhoncanjjaaRfApp
namespace Go.Proofs.Ytmoifhoncanjjaa
open Go.RowKit
set_option linter.unusedSimpArgs false

set_option maxHeartbeats 1600000 in
theorem ref_Get {w : World} {S : Nat → Prop} {b k : Nat} {m op : Int} {es : List Ent} (h : RLog w S b m es) (h2 : es.length ≤ 64) (hf : Fits es) (hk : k < es.length) (hop : op = m + k + 1) :
    Calls Try.prog 44 #[.pointer (some ⟨b, 0, none⟩), .int .u64 op] w fun x w' => ∃ p c, x = .returned (.tuple #[entVal es[k] (.slice p es[k].cmd.length c), .int .i64 0]) ∧
      CmdOwn w' w.heap.size (.slice p es[k].cmd.length c) es[k].cmd ∧ Below w.heap.size w w' := by
  have hw : withinE m es.length op = 0 := by unfold withinE; rw [if_neg (by omega), if_neg (by omega)]
  have hX0 := (Below.refl w.heap.size w).alloc (Nat.le_refl _) (.cells #[.int .u64 0, .int .u32 0, .int .u64 0, .slice none 0 0] 33)
  have kE := Blk.new w 33 #[.int .u64 0, .int .u32 0, .int .u64 0, .slice none 0 0]
  have HW := Lib.hid hw
  have Hop := Lib.hid hop
  clear hop
  have H := Lib.hid h
  have HX0 := Lib.hid hX0
  have KE := Lib.hid kE
  have Hf := Lib.hid hf
  clear h hw hX0 kE hf
  go_enter Try.func44, Try.ntmps44
  go_wp2_with fail
  refine (ref_within (op := op) (H.out.below HX0.out) h2).mono ?_
  rintro x w1 ⟨rfl, hb1⟩
  rw [HW.out]
  have hX1 := HX0.out.trans (hb1.mono HX0.out.size)
  have kE1 := KE.out.below hb1
  have HX1 := Lib.hid hX1
  have KE1 := Lib.hid kE1
  clear hb1 hX1 kE1
  go_wp2_with fail
  go_loopw [7] (fun i wr => ∃ j : Nat, j ≤ k ∧ i = .int .i64 j ∧ wr = w1) (fun i _ => es.length - (intOf i).toNat)
  case atStart => exact ⟨0, Nat.zero_le _, rfl, rfl⟩
  case round =>
    obtain ⟨j, hj, rfl, rfl⟩ := hrel
    obtain ⟨p, c, hB, hI, -⟩ := H.out.below HX1.out
    obtain ⟨a0, a1, f0, f1, hz1⟩ := hB.c2
    have hjn : j < es.length := by omega
    obtain ⟨g, off, s, rfl, hc1, hc2, hg, hq, d0, d1, d2, d3, d4⟩ := hI.at hjn
    obtain ⟨sp, sc, rfl⟩ := Rd.slice hq.1
    have Hq := Lib.hid hq
    clear hB hI hq hg
    by_cases he : j = k
    · subst he
      have ht : (m + (j : Int) + 1 == op) = true := by have := Hop.out; simp; omega
      go_wp2_with fail
      refine (ref_Own es[j] Hq.out (Hf.out _ (List.getElem_mem _))).mono ?_
      rintro x w2 ⟨p2, c2, rfl, ho, hb⟩
      have kk := KE1.out.below hb
      obtain ⟨m0, m1, m2, m3, n0, n1, n2, n3, hz2⟩ := kk.c4
      have Ho := Lib.hid (own_base ho (base' := w.heap.size) HX1.out.size)
      have Hb := Lib.hid (HX1.out.trans (hb.mono HX1.out.size))
      have Kk := Lib.hid kk
      clear ho hb kk
      unfold entVal
      go_wp2_with fail
      refine bodyPost_ret (v := .tuple #[entVal es[j] (.slice p2 es[j].cmd.length c2), .int .i64 0]) (by simp [results, Try.results44, go_sem, m0, m1, m2, m3, entVal]) rfl ⟨p2, c2, rfl, ?_, ?_⟩
      · exact own_set (own_set (own_set (own_set Ho.out Kk.out (by decide) _ _) (Kk.out.set_ _ _) (by decide) _ _) ((Kk.out.set_ _ _).set_ _ _) (by decide) _ _) (((Kk.out.set_ _ _).set_ _ _).set_ _ _) (by decide) _ _
      · refine Below.trans Hb.out ?_
        repeat' (first | (with_reducible exact Below.refl _ _) | with_reducible refine Below.setCell ?_ (by simp) _)
    · have ht : (m + (j : Int) + 1 == op) = false := by have := Hop.out; simp; omega
      go_wp2_with fail
      go_roundw
      case rel => exact ⟨j + 1, by omega, by go_num, by first | rfl | trivial⟩
      case measure => simp [intOf]; omega

set_option maxHeartbeats 1600000 in
theorem ref_Get_no {w : World} {S : Nat → Prop} {b : Nat} {m op : Int} {es : List Ent} (h : RLog w S b m es) (h2 : es.length ≤ 64) (hw : withinE m es.length op ≠ 0) :
    Calls Try.prog 44 #[.pointer (some ⟨b, 0, none⟩), .int .u64 op] w fun x w' => x = .returned (.tuple #[entVal ⟨0, 0, 0, []⟩ (.slice none 0 0), .int .i64 (withinE m es.length op)]) ∧ Below w.heap.size w w' := by
  have ht : (withinE m es.length op == 0) = false := by simpa using hw
  have hX0 := (Below.refl w.heap.size w).alloc (Nat.le_refl _) (.cells #[.int .u64 0, .int .u32 0, .int .u64 0, .slice none 0 0] 33)
  have kE := Blk.new w 33 #[.int .u64 0, .int .u32 0, .int .u64 0, .slice none 0 0]
  have H := Lib.hid h
  have HX0 := Lib.hid hX0
  have KE := Lib.hid kE
  clear h hw hX0 kE
  go_enter Try.func44, Try.ntmps44
  go_wp2_with fail
  refine (ref_within (op := op) (H.out.below HX0.out) h2).mono ?_
  rintro x w1 ⟨rfl, hb1⟩
  generalize hE : withinE m es.length op = e at ht ⊢
  have HE := Lib.hid hE
  have kk := KE.out.below hb1
  obtain ⟨m0, m1, m2, m3, n0, n1, n2, n3, hz2⟩ := kk.c4
  have Hb := Lib.hid (HX0.out.trans (hb1.mono HX0.out.size))
  clear hE kk hb1
  go_wp2_with fail
  refine bodyPost_ret (v := .tuple #[entVal ⟨0, 0, 0, []⟩ (.slice none 0 0), .int .i64 e]) (by simp [results, Try.results44, go_sem, m0, m1, m2, m3, entVal]) rfl ⟨by rw [HE.out], ?_⟩
  refine Below.trans Hb.out ?_
  repeat' (first | (with_reducible exact Below.refl _ _) | with_reducible refine Below.setCell ?_ (by simp) _)

set_option maxHeartbeats 1600000 in
theorem ref_Get_base {w : World} {S : Nat → Prop} {b : Nat} {m : Int} {es : List Ent} (h : RLog w S b m es) (h2 : es.length ≤ 64) :
    Calls Try.prog 44 #[.pointer (some ⟨b, 0, none⟩), .int .u64 m] w fun x w' => x = .returned (.tuple #[entVal ⟨0, 0, 0, []⟩ (.slice none 0 0), .int .i64 32]) ∧ Below w.heap.size w w' := by
  have hw : withinE m es.length m = 0 := by unfold withinE; rw [if_neg (by omega), if_neg (by omega)]
  have hX0 := (Below.refl w.heap.size w).alloc (Nat.le_refl _) (.cells #[.int .u64 0, .int .u32 0, .int .u64 0, .slice none 0 0] 33)
  have kE := Blk.new w 33 #[.int .u64 0, .int .u32 0, .int .u64 0, .slice none 0 0]
  have HW := Lib.hid hw
  have H := Lib.hid h
  have HX0 := Lib.hid hX0
  have KE := Lib.hid kE
  clear h hw hX0 kE
  go_enter Try.func44, Try.ntmps44
  go_wp2_with fail
  refine (ref_within (op := m) (H.out.below HX0.out) h2).mono ?_
  rintro x w1 ⟨rfl, hb1⟩
  rw [HW.out]
  have hX1 := HX0.out.trans (hb1.mono HX0.out.size)
  have kE1 := KE.out.below hb1
  have HX1 := Lib.hid hX1
  have KE1 := Lib.hid kE1
  clear hb1 hX1 kE1
  go_wp2_with fail
  go_loopw [7] (fun i wr => ∃ j : Nat, j ≤ es.length ∧ i = .int .i64 j ∧ wr = w1) (fun i _ => es.length - (intOf i).toNat)
  case atStart => exact ⟨0, Nat.zero_le _, rfl, rfl⟩
  case round =>
    obtain ⟨j, hj, rfl, rfl⟩ := hrel
    obtain ⟨p, c, hB, hI, -⟩ := H.out.below HX1.out
    obtain ⟨a0, a1, f0, f1, hz1⟩ := hB.c2
    by_cases hjn : j < es.length
    · obtain ⟨g, off, s, rfl, hc1, hc2, hg, hq, d0, d1, d2, d3, d4⟩ := hI.at hjn
      clear hB hI hq hg
      have ht : (m + (j : Int) + 1 == m) = false := by simp; omega
      go_wp2_with fail
      go_roundw
      case rel => exact ⟨j + 1, by omega, by go_num, by first | rfl | trivial⟩
      case measure => simp [intOf]; omega
    · clear hB hI
      obtain ⟨m0, m1, m2, m3, n0, n1, n2, n3, hz2⟩ := KE1.out.c4
      go_wp2_with fail
      refine bodyPost_ret (v := .tuple #[entVal ⟨0, 0, 0, []⟩ (.slice none 0 0), .int .i64 32]) (by simp [results, Try.results44, go_sem, m0, m1, m2, m3, entVal]) rfl ⟨rfl, ?_⟩
      refine Below.trans HX1.out ?_
      repeat' (first | (with_reducible exact Below.refl _ _) | with_reducible refine Below.setCell ?_ (by simp) _)
end Go.Proofs.Ytmoifhoncanjjaa
