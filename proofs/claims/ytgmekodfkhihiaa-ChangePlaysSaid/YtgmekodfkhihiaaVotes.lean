/-
  Votes: the contracts of New, none, Most, Who, Count.
-/
import Derived.Test.YtgmekodfkhihiaaVKey
import Derived.Laws.AppendOwnNone
import Derived.WalkSpells
import Derived.Deep.DeepCutAuto
namespace Go.Proofs.Ytgmekodfkhihiaa
open Go.RowKit Go.Maps
set_option linter.unusedSimpArgs false
set_option linter.unusedVariables false

/-- Votes at block vb: of n nodes; its map is block g. -/
structure VAt (w : World) (vb g : Nat) (n : Int) (v : Int) (t h : List Bool) : Prop where
  k : Blk w vb 99 #[.int .i64 n, .map (some g)]
  m : VMap w g v t h
section
variable {w w' : World} {vb g : Nat} {n v : Int} {t h : List Bool}
theorem VAt.ne (H : VAt w vb g n v t h) : vb ≠ g := by
  rintro rfl
  obtain ⟨⟨D, ⟨es, clock, hb, -⟩, -⟩, -⟩ := H.m
  have := H.k
  unfold Blk at this
  rw [hb] at this
  cases this
theorem VAt.below (H : VAt w vb g n v t h) (hb : Below w.heap.size w w') : VAt w' vb g n v t h := ⟨H.k.below hb, H.m.below hb⟩
theorem VAt.ext {M : Nat → Prop} (H : VAt w vb g n v t h) (hb : Ext M w w') (h1 : ¬ M vb) (h2 : ¬ M g) : VAt w' vb g n v t h := ⟨H.k.ext hb h1, H.m.ext hb h2⟩

theorem votes_Most {w : World} {n : Int} (h0 : 0 ≤ n) (h1 : n ≤ 100) : Calls Try.prog 31 #[.int .i64 n] w fun x w' => x = .returned (.int .i64 (n / 2 + 1)) ∧ w = w' := by
  go_enter Try.func31, Try.ntmps31
  go_wp2_with fail
  go_ret
  exact ⟨rfl, rfl⟩
theorem votes_New {w : World} {n v : Int} (h0 : 1 ≤ n) (h1 : n ≤ 7) (hv : (Lit.int .u64 v).wf = true) :
    Calls Try.prog 27 #[.int .i64 n] w fun x w' => x = .returned (.tuple #[.pointer (some ⟨w.heap.size + 1, 0, none⟩), .int .i64 0]) ∧ VAt w' (w.heap.size + 1) w.heap.size n v no7 no7 ∧ Below w.heap.size w w' := by
  have hd : decide (n < 1) = false := by simp; omega
  have hd2 : decide (7 < n) = false := by simp; omega
  have hmm := @run_makeMap Try.prog
  go_enter Try.func27, Try.ntmps27
  go_wp2_with fail
  go_ret2
  have hb1 := (Below.refl w.heap.size w).alloc (Nat.le_refl _) (.map #[] 0)
  have hz : (w.alloc (.map #[] 0)).heap.size = w.heap.size + 1 := World.size_alloc _ _
  have hb2 := (Below.refl (w.alloc (.map #[] 0)).heap.size (w.alloc (.map #[] 0))).alloc (Nat.le_refl _) (.cells #[.int .i64 n, .map (some w.heap.size)] 99)
  have k := Blk.new (w.alloc (.map #[] 0)) 99 #[.int .i64 n, .map (some w.heap.size)]
  rw [hz] at k
  exact ⟨rfl, ⟨k, (VMap.new w hv).below hb2⟩, hb1.trans (hb2.mono (by omega))⟩
theorem votes_New_arg {w : World} {n : Int} (h : n < 1 ∨ 7 < n) :
    Calls Try.prog 27 #[.int .i64 n] w fun x w' => x = .returned (.tuple #[.pointer none, .int .i64 1]) ∧ w = w' := by
  by_cases h1 : n < 1
  · have hd : decide (n < 1) = true := by simpa using h1
    go_enter Try.func27, Try.ntmps27
    go_wp2_with fail
    go_ret2
    exact ⟨rfl, rfl⟩
  · have hd : decide (n < 1) = false := by simpa using h1
    have hd2 : decide (7 < n) = true := by simp; omega
    go_enter Try.func27, Try.ntmps27
    go_wp2_with fail
    go_ret2
    exact ⟨rfl, rfl⟩
theorem votes_none (H : VAt w vb g n v t h) : Calls Try.prog 46 #[.pointer (some ⟨vb, 0, none⟩)] w fun x w' => x = .returned (.bool false) ∧ w = w' := by
  obtain ⟨a0, a1, f0, f1, hz⟩ := H.k.c2
  have hq := run_eql_map_nil (P := Try.prog) w 97 _ _ (some g) Try.underlying97
  clear H
  go_enter Try.func46, Try.ntmps46
  go_wp2
  go_ret
  exact ⟨rfl, rfl⟩

/-- Who voted: the places of what is true. -/
def whoL (l : List Bool) : List Nat := (List.range l.length).filter fun i => l.getD i false
def icells (l : List Nat) : List Value := l.map fun n : Nat => .int .i64 (n : Int)
theorem whoL_succ {l : List Bool} {k : Nat} (hk : k < l.length) : whoL (l.take (k + 1)) = whoL (l.take k) ++ (if l[k] = true then [k] else []) := by
  unfold whoL
  rw [List.length_take, List.length_take, Nat.min_eq_left (by omega), Nat.min_eq_left (by omega), List.range_succ, List.filter_append]
  congr 1
  · refine List.filter_congr fun i hi => ?_
    have : i < k := List.mem_range.1 hi
    simp [List.getD, List.getElem?_take, this, Nat.lt_succ_of_lt this]
  · cases h : l[k] <;> simp [List.getD, List.getElem?_take, List.getElem?_eq_getElem hk, h]
theorem whoL_le (l : List Bool) : (whoL l).length ≤ l.length := by
  unfold whoL
  refine Nat.le_trans (List.length_filter_le _ _) (by simp)
theorem idx7 {l : List Bool} (hl : l.length = 7) (w : World) : ∀ k : Nat, (hk : k < 7) → (Instr.index 101 (bval l) (.int .i64 (k : Int))).run Try.prog w = .ok (.bool (l[k]'(by omega))) w := by
  match l, hl with
  | [b0, b1, b2, b3, b4, b5, b6], _ =>
    intro k hk
    match k, hk with
    | 0, _ => show _ = _; kernel_rfl
    | 1, _ => show _ = _; kernel_rfl
    | 2, _ => show _ = _; kernel_rfl
    | 3, _ => show _ = _; kernel_rfl
    | 4, _ => show _ = _; kernel_rfl
    | 5, _ => show _ = _; kernel_rfl
    | 6, _ => show _ = _; kernel_rfl
    | k + 7, h => omega
theorem infoI : (Try.prog.info? 3).map (fun i => (i.zero, i.size, i.bytes)) = some (some (.int .i64 0), 1, 8) := by kernel_rfl
set_option maxHeartbeats 3200000 in
set_option maxRecDepth 100000 in
theorem votes_Who (H : VAt w vb g n v t h) {kd : Int} (hkd : kd = 1 ∨ kd = 2) :
    Calls Try.prog 33 #[.pointer (some ⟨vb, 0, none⟩), mat kd v] w fun x w' => ∃ p c, x = .returned (.slice p (whoL (sel kd t h)).length c) ∧
      w'.ownsRow w.heap.size 3 1 (.slice p (whoL (sel kd t h)).length c) (whoL (sel kd t h)).length (icells (whoL (sel kd t h))) ∧ Below w.heap.size w w' := by
  obtain ⟨i0, hi, iz0, iz1, iz2⟩ := info_parts infoI
  obtain ⟨l, hl⟩ : ∃ l, sel kd t h = l := ⟨_, rfl⟩
  have hl7 : l.length = 7 := by rw [← hl]; unfold sel; split; exact H.m.lt; exact H.m.lh
  have hb1 := (Below.refl w.heap.size w).alloc (Nat.le_refl _) (.cells #[.int .i64 kd, .int .u64 v, .int .u64 0] 84)
  have hM := Blk.new w 84 #[.int .i64 kd, .int .u64 v, .int .u64 0]
  have hH := H.below hb1
  have hlk := (show VMap (w.alloc (.cells #[.int .i64 kd, .int .u64 v, .int .u64 0] 84)).drew g v t h from hH.m.below (Below.refl _ _).drew).look hkd
  have hno := votes_none hH
  rw [hl] at hlk ⊢
  have HB := Lib.hid hb1
  have Hl := Lib.hid hl7
  have Hlk := Lib.hid hlk
  have Hno := Lib.hid hno
  obtain ⟨m0, m1, m2, -⟩ := hM.c3
  obtain ⟨a0, a1, f0, f1, hz⟩ := hH.k.c2
  clear hl hl7 hb1 hM hH hlk hno H
  unfold mat
  go_enter Try.func33, Try.ntmps33
  go_wp2_with fail
  generalize w.alloc (.cells #[.int .i64 kd, .int .u64 v, .int .u64 0] 84) = W at *
  refine Hno.out.mono ?_
  rintro x _ ⟨rfl, rfl⟩
  go_upto_region 4 with fail
  have hlk := Hlk.out
  unfold mat at hlk
  go_region
  have HBd := Lib.hid HB.out.drew
  clear hlk a0 a1 f0 f1 m0 m1 m2 Hlk Hno HB
  go_wp2_with fail
  go_loopw [5, 17] (fun out i wr => ∃ (k : Nat) (p : Option Addr) (c : Nat), k ≤ 7 ∧ i = .int .i64 k ∧ out = .slice p (whoL (l.take k)).length c ∧ Hid (wr.ownsRow w.heap.size 3 1 (.slice p (whoL (l.take k)).length c) (whoL (l.take k)).length (icells (whoL (l.take k))) ∧ Below w.heap.size w wr)) (fun _ i _ => 7 - (intOf i).toNat)
  case atStart => exact ⟨0, none, 0, Nat.zero_le _, rfl, by simp [whoL], Lib.hid ⟨by simpa [whoL, icells] using World.ownsRow_nil _ _ _ _, HBd.out⟩⟩
  case round =>
    obtain ⟨k, p1, c1, hk, rfl, rfl, hR⟩ := hrel
    have hwl := whoL_le (l.take k)
    have hwl7 : (whoL (l.take k)).length ≤ 7 := Nat.le_trans hwl (by rw [List.length_take, Hl.out]; omega)
    clear hwl
    by_cases hlt : k < 7
    · have hkl : k < l.length := by rw [Hl.out]; exact hlt
      have hix := idx7 Hl.out wr k hlt
      have hsucc := whoL_succ hkl
      cases hb : l[k] with
      | true =>
        rw [hb] at hix hsucc
        have Hs := Lib.hid hsucc
        clear hsucc hb
        obtain ⟨ho, hbl⟩ := hR.out
        have Ho := Lib.hid ho
        have Hbl := Lib.hid hbl
        clear ho hbl hR
        generalize hN : (whoL (l.take k)).length = N at *
        go_wp2_with (at_builtin; refine wpList_append_own _ rfl _ _ 57 rfl w.heap.size 3 i0 (.int .i64 0) 1 8 Try.underlying57 hi iz0 iz1 iz2 rfl (by decide) _ N (icells (whoL (l.take k))) rfl (own_alloc Ho.out _) ⟨wr.heap.size, 0, none⟩ 1 1 [.int .i64 (k : Int)] rfl rfl ?c1 ?c2 ?c3 ?c4 ?c5 ?_)
        case c2 => rfl
        case c3 => unfold maxLen; omega
        case c4 => omega
        case c5 => have := Hbl.out.size; simp; omega
        intro v' w3 hown3 hgrow hnil
        clear hnil
        obtain ⟨p3, c3, rfl⟩ := own_slice hown3
        have hlen : (whoL (l.take (k + 1))).length = N + 1 := by rw [Hs.out]; simp [hN]
        have hfin : w3.ownsRow w.heap.size 3 1 (.slice p3 (whoL (l.take (k + 1))).length c3) (whoL (l.take (k + 1))).length (icells (whoL (l.take (k + 1)))) := by
          rw [hlen, Hs.out]
          simpa [icells] using hown3
        have hbl : Below w.heap.size w w3 := by
          refine ((Hbl.out).alloc Hbl.out.size _).grown hgrow (by have := Hbl.out.size; simp; omega) ?_
          intro q hq
          exact (Ho.out.lt q hq).1
        have Hfin := Lib.hid (And.intro hfin hbl)
        have Hlen := Lib.hid hlen
        clear hown3 hgrow hfin hbl hlen
        go_wp2_with fail
        go_roundw
        case rel => exact ⟨k + 1, p3, c3, by omega, by go_num, by rw [Hlen.out], Hfin⟩
        case measure => simp [intOf]; omega
      | false =>
        rw [hb] at hix hsucc
        simp at hsucc
        have Hs := Lib.hid hsucc
        clear hsucc hb
        go_wp2_with fail
        go_roundw
        case rel => exact ⟨k + 1, p1, c1, by omega, by go_num, by rw [Hs.out], by rw [Hs.out]; exact hR⟩
        case measure => simp [intOf]; omega
    · obtain rfl : k = 7 := by omega
      have he : l.take 7 = l := by rw [← Hl.out, List.take_length]
      rw [he] at hR ⊢
      go_wp2_with fail
      go_ret
      exact ⟨p1, c1, rfl, hR.out⟩

theorem votes_Count (H : VAt w vb g n v t h) {kd : Int} (hkd : kd = 1 ∨ kd = 2) :
    Calls Try.prog 49 #[.pointer (some ⟨vb, 0, none⟩), mat kd v] w fun x w' => x = .returned (.int .i64 (whoL (sel kd t h)).length) ∧ Below w.heap.size w w' := by
  have hb1 := (Below.refl w.heap.size w).alloc (Nat.le_refl _) (.cells #[.int .i64 kd, .int .u64 v, .int .u64 0] 84)
  have hM := Blk.new w 84 #[.int .i64 kd, .int .u64 v, .int .u64 0]
  have HH := Lib.hid (H.below hb1)
  have HB := Lib.hid hb1
  obtain ⟨m0, m1, m2, -⟩ := hM.c3
  clear H hb1 hM
  unfold mat
  go_enter Try.func49, Try.ntmps49
  go_wp2_with fail
  refine (votes_Who HH.out hkd).mono ?_
  rintro x w1 ⟨p, c, rfl, ho, hb⟩
  have HX := Lib.hid (HB.out.trans (hb.mono (by simp)))
  clear ho hb m0 m1 m2 HH
  go_wp2_with fail
  go_ret
  exact ⟨rfl, HX.out⟩
end
end Go.Proofs.Ytgmekodfkhihiaa
