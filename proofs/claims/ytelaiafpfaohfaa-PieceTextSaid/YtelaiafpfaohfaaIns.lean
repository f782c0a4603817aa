/-
  piece.Table.Insert: the contract. No condition but bounds far below what memory bears.
-/
import Derived.Test.YtelaiafpfaohfaaDel
namespace Go.Proofs.Ytelaiafpfaohfaa
open Go.RowKit
set_option linter.unusedSimpArgs false
set_option linter.unusedVariables false

def insertL (ps : List Pc) (pos n m : Nat) : List Pc := joinL [(partL ps pos).1, [⟨true, n, m⟩], (partL ps pos).2]
theorem rows3 {w : World} {S1 S2 S3 : Nat → Prop} {v1 v2 v3 : Value} {l1 l2 l3 : List Pc} (h1 : PcsRd w S1 v1 l1) (h2 : PcsRd w S2 v2 l2) (h3 : PcsRd w S3 v3 l3) (t : TypeId) : RowsRd (w.alloc (.cells #[v1, v2, v3] t)) (.slice (some ⟨w.heap.size, 0, none⟩) 3 3) [l1, l2, l3] := by
  have k1 : PcsRd (w.alloc (.cells #[v1, v2, v3] t)) (fun _ => True) v1 l1 := Rd.weak (Rd.alloc h1 (by decide) _) (fun _ _ _ => trivial) (by decide)
  have k2 : PcsRd (w.alloc (.cells #[v1, v2, v3] t)) (fun _ => True) v2 l2 := Rd.weak (Rd.alloc h2 (by decide) _) (fun _ _ _ => trivial) (by decide)
  have k3 : PcsRd (w.alloc (.cells #[v1, v2, v3] t)) (fun _ => True) v3 l3 := Rd.weak (Rd.alloc h3 (by decide) _) (fun _ _ _ => trivial) (by decide)
  refine ⟨[v1, v2, v3], ⟨rfl, _, _, rfl, Nat.le_refl _, by unfold maxLen; decide, fun _ => ⟨_, 0, rfl, trivial, fun j u hu => ?_⟩⟩, fun i hi => ?_⟩
  · rw [Nat.zero_add, (Blk.new w t #[v1, v2, v3]).cell j]
    simpa using hu
  · match i, hi with
    | 0, _ => exact ⟨v1, rfl, k1⟩
    | 1, _ => exact ⟨v2, rfl, k2⟩
    | 2, _ => exact ⟨v3, rfl, k3⟩

theorem tab_set2 {w w3 : World} {S : Nat → Prop} {b base : Nat} {f s : List Int} {ps' : List Pc} {n m : Nat} {vf vs vp v : Value} (hS : ¬ S b) (hlt : b < w.heap.size) (hbase : w.heap.size ≤ base) (hB : Blk w3 b 63 #[vf, vs, vp, .int .i64 n, .bool true]) (hf : CharRd w3 S vf f) (hs : CharRd w3 (NewOr S w) vs s) (hnf : NilOk vf) (hns : NilOk vs)
    (ho : PcsOwn w3 base v ps') (hX : Ext (fun k => k = b) w w3) : TabS ((w3.setCell ⟨b, 2, none⟩ v).setCell ⟨b, 3, none⟩ (.int .i64 m)) (NewOr S w) b f s ps' m ∧ Ext (fun k => k = b) w ((w3.setCell ⟨b, 2, none⟩ v).setCell ⟨b, 3, none⟩ (.int .i64 m)) := by
  have hE : Ext (fun k => k = b) w3 ((w3.setCell ⟨b, 2, none⟩ v).setCell ⟨b, 3, none⟩ (.int .i64 m)) := Ext.set1 (M := fun k => k = b) (Ext.set1 (M := fun k => k = b) (Ext.refl _ w3) rfl) rfl
  have hp : PcsRd w3 (NewOr S w) v ps' := Rd.weak ho.rd (fun k hk _ => .inr (Nat.le_trans hbase hk.1)) (by decide)
  have hN : ∀ k, NewOr S w k → ¬ k = b := by
    rintro k (hk | hk) rfl
    · exact hS hk
    · omega
  exact ⟨⟨vf, vs, v, (hB.set_ 2 v).set_ 3 _, Rd.ext (Rd.weak hf (fun _ h _ => .inl h) (by decide)) hE hN (by decide), Rd.ext hs hE hN (by decide), Rd.ext hp hE hN (by decide), hnf, hns⟩, hX.trans hE⟩

set_option maxHeartbeats 3200000 in
theorem insert_any {w : World} {T : Nat → Prop} {b : Nat} {f s l : List Int} {S : Nat → Prop} {pl : Option Addr} {cl : Nat} {ps : List Pc} {long pos : Nat} (h : TabS w T b f s ps long) (hS : ¬ T b) (hin : PcsIn f s ps) (hf : f.length ≤ 1000000) (hs : s.length ≤ 1000000) (hps : ps.length ≤ 1000000) (hl : long ≤ 1000000) (hpn : pos ≤ long)
    (hx : CharRd w S (.slice pl l.length cl) l) (hxn : NilOk (.slice pl l.length cl)) (hn0 : 0 < l.length) (hn : l.length ≤ 1000000) :
    Calls Try.prog 12 #[.pointer (some ⟨b, 0, none⟩), .int .i64 pos, .slice pl l.length cl] w (ChangedS w T b f (s ++ l) (insertL ps pos s.length l.length) (long + l.length)) := by
  obtain ⟨vf, vs, vp, hB, hf', hs', hp, hnf, hns⟩ := h
  obtain ⟨qs, cs, rfl⟩ := Rd.slice hs'
  have Hno := Lib.hid (tab_none hB)
  have Hp := Lib.hid hp
  have HB := Lib.hid hB
  have Hf := Lib.hid hf'
  have Hs := Lib.hid hs'
  have Hx := Lib.hid hx
  have Hxn := Lib.hid hxn
  have Hnf := Lib.hid hnf
  have Hin := Lib.hid hin
  have a2 : w.cell? ⟨b, 2, none⟩ = some vp := hB.cell 2
  have a3 : w.cell? ⟨b, 3, none⟩ = some (.int .i64 (long : Int)) := hB.cell 3
  clear hf' hs' hp hnf hns hB hin hx hxn
  go_enter Try.func12, Try.ntmps12
  go_wp2_with fail
  refine Hno.out.mono ?_
  rintro e w' ⟨rfl, rfl⟩
  go_wp2_with fail
  refine (part_any Hp.out (Hin.out.ok hf hs) hps (by omega)).mono ?_
  rintro e w1 ⟨v1, v2, rfl, hv1, hv2, hX1⟩
  obtain ⟨n1, p1, c1, rfl⟩ : ∃ n p c, v1 = .slice p n c := (by obtain ⟨p, c, h⟩ := Rd.slice hv1; exact ⟨_, p, c, h⟩)
  obtain ⟨n2, p2, c2, rfl⟩ : ∃ n p c, v2 = .slice p n c := (by obtain ⟨p, c, h⟩ := Rd.slice hv2; exact ⟨_, p, c, h⟩)
  have hblt := HB.out.lt
  have hbA := (Below.refl w1.heap.size w1).alloc (Nat.le_refl _) (.cells #[.bool true, .int .i64 (s.length : Int), .int .i64 (l.length : Int)] 58)
  have HX2 := Lib.hid (hX1.trans (hbA.mono hX1.size))
  have HG := Lib.hid (Blk.new w1 58 #[.bool true, .int .i64 (s.length : Int), .int .i64 (l.length : Int)])
  have Hv1 := Lib.hid (hv1.below hbA)
  have Hv2 := Lib.hid (hv2.below hbA)
  have HX1 := Lib.hid hX1
  have hb1 : w1.cell? ⟨b, 1, none⟩ = some (.slice qs s.length cs) := (HB.out.below hX1).cell 1
  have hb2 : (w1.alloc (.cells #[.bool true, .int .i64 (s.length : Int), .int .i64 (l.length : Int)] 58)).cell? ⟨b, 1, none⟩ = some (.slice qs s.length cs) := (HB.out.below HX2.out).cell 1
  clear hv1 hv2 hX1 hbA
  go_wp2_with fail
  refine (slices_Clone_C (Rd.below Hs.out (by decide) HX2.out) (ccells_one s) (by omega)).mono ?_
  rintro e w3 ⟨p3, c3, rfl, ho3, hX3⟩
  have HXw3 := Lib.hid (HX2.out.trans (hX3.mono HX2.out.size))
  have HO3 := Lib.hid (show CharOwn w3 _ (.slice p3 s.length c3) s from ho3)
  have HX3 := Lib.hid hX3
  have Hx3 := Lib.hid (Hx.out.below HXw3.out)
  have hneG : w1.heap.size ≠ b := fun e => by have := HX1.out.size; omega
  clear ho3 hX3
  go_wp2_with (at_builtin; go_loud (refine wpList_append_C rfl (.tmp 50) (.tmp 51) rfl _ (.slice p3 s.length c3) s l S rfl HO3.out pl cl rfl Hx3.out Hxn.out (by omega) HX3.out.size ?_; intro v4 w4 ho4 hg4; obtain ⟨n4, p4, c4, rfl⟩ : ∃ n p c, v4 = .slice p n c := (by obtain ⟨p, c, h⟩ := own_slice ho4; exact ⟨_, p, c, h⟩); have HO4 := Lib.hid ho4; have HX4 := Lib.hid (HX3.out.grown hg4 HX3.out.size (fun j hj => (HO3.out.lt j hj).1)); have HXw4 := Lib.hid (HX2.out.trans (HX4.out.mono HX2.out.size)); have HB4 := Lib.hid (HB.out.below HXw4.out); have q1 : w4.cell? ⟨b, 1, none⟩ = some (.slice qs s.length cs) := HB4.out.cell 1; have q2 : w4.frozen? ⟨b, 1, none⟩ = false := HB4.out.frozen 1; have HG4 := Lib.hid (HG.out.below HX4.out); obtain ⟨g0, g1, g2, -, -, -, -⟩ := HG4.out.c3; have y0 := (cell_far (b := b) (i := 1) (u := .slice p4 n4 c4) hneG).trans g0; have y1 := (cell_far (b := b) (i := 1) (u := .slice p4 n4 c4) hneG).trans g1; have y2 := (cell_far (b := b) (i := 1) (u := .slice p4 n4 c4) hneG).trans g2; clear ho4 hg4))
  have e5 : (w4.setCell ⟨b, 1, none⟩ (.slice p4 n4 c4)).heap.size = w4.heap.size := by simp
  have e6 : ((w4.setCell ⟨b, 1, none⟩ (.slice p4 n4 c4)).alloc (.cells #[.bool true, .int .i64 (s.length : Int), .int .i64 (l.length : Int)] 58)).heap.size = w4.heap.size + 1 := by simp
  have hN : ∀ k, NewOr T w k → k < w4.heap.size → k ≠ b := fun k h _ => by
    rintro rfl
    rcases h with h | h
    · exact hS h
    · omega
  have hv1' := Rd.setCell (Rd.below Hv1.out (by decide) HX4.out) (by decide) (a := ⟨b, 1, none⟩) hN (.slice p4 n4 c4)
  have hv2' := Rd.setCell (Rd.below Hv2.out (by decide) HX4.out) (by decide) (a := ⟨b, 1, none⟩) hN (.slice p4 n4 c4)
  have hrows := rows3 (l1 := (partL ps pos).1) (l3 := (partL ps pos).2) (Rd.alloc hv1' (by decide) (.cells #[.bool true, .int .i64 (s.length : Int), .int .i64 (l.length : Int)] 58)) (one_pc (w := w4.setCell ⟨b, 1, none⟩ (.slice p4 n4 c4)) ⟨true, s.length, l.length⟩) (Rd.alloc hv2' (by decide) _) 50
  rw [e6, e5] at hrows
  have Hlen1 := partL_len ps pos
  have Hin1 := partL_in ps pos Hin.out
  refine (joined_any hrows (by
      have e1 := Hin1.1.ok hf hs
      have e2 := Hin1.2.ok hf hs
      intro p hp
      simp at hp
      rcases hp with hp | rfl | hp
      · exact e1 p hp
      · show s.length + l.length ≤ _
        omega
      · exact e2 p hp) (by simp; omega) (by simp)).mono ?_
  rintro e w8 ⟨v, rfl, ho, hX8⟩
  obtain ⟨n5, p5, c5, rfl⟩ : ∃ n p c, v = .slice p n c := (by obtain ⟨p, c, h⟩ := own_slice ho; exact ⟨_, p, c, h⟩)
  have HB8 := Lib.hid ((((HB4.out.set_ 1 (.slice p4 n4 c4)).alloc (.cells #[.bool true, .int .i64 (s.length : Int), .int .i64 (l.length : Int)] 58)).alloc (.cells #[.slice p1 n1 c1, .slice (some ⟨w4.heap.size, 0, none⟩) 1 1, .slice p2 n2 c2] 50)).below hX8)
  have hm3 : w8.cell? ⟨b, 3, none⟩ = some (.int .i64 (long : Int)) := HB8.out.cell 3
  have hm2 : w8.cell? ⟨b, 2, none⟩ = some vp := HB8.out.cell 2
  have hf2 : w8.frozen? ⟨b, 2, none⟩ = false := HB8.out.frozen 2
  have hf3 : w8.frozen? ⟨b, 3, none⟩ = false := HB8.out.frozen 3
  obtain ⟨m, hm⟩ : ∃ m, m = long + l.length := ⟨_, rfl⟩
  have hw : IntKind.i64.wrap ((long : Int) + (l.length : Int)) = (m : Int) := by rw [IntKind.wrap_i64]; omega
  have Hm := Lib.hid hm
  have hE5 : Ext (fun k => k = b) w (w4.setCell ⟨b, 1, none⟩ (.slice p4 n4 c4)) := Ext.set1 (M := fun k => k = b) (Ext.of_below _ HXw4.out) rfl
  have hE8 : Ext (fun k => k = b) w w8 := ((hE5.alloc (.cells #[.bool true, .int .i64 (s.length : Int), .int .i64 (l.length : Int)] 58)).alloc (.cells #[.slice p1 n1 c1, .slice (some ⟨w4.heap.size, 0, none⟩) 1 1, .slice p2 n2 c2] 50)).trans (Ext.of_below _ hX8)
  have hsz4 := HXw4.out.size
  have hsec : CharRd w8 (NewOr T w) (.slice p4 n4 c4) (s ++ l) := by
    have h1 : CharRd w4 (NewOr T w) (.slice p4 n4 c4) (s ++ l) := Rd.weak HO4.out.rd (fun k hk _ => .inr (Nat.le_trans HX2.out.size hk.1)) (by decide)
    have h2 := Rd.setCell h1 (by decide) (a := ⟨b, 1, none⟩) hN (.slice p4 n4 c4)
    exact Rd.below (Rd.alloc (Rd.alloc h2 (by decide) _) (by decide) _) (by decide) hX8
  have HF := Lib.hid (tab_set2 (m := m) (base := _) hS hblt (by simp; omega) HB8.out (Rd.ext Hf.out hE8 (fun k h he => hS (he ▸ h)) (by decide)) hsec Hnf.out (NilOk.own HO4.out) ho hE8)
  clear ho hX8 hm hE5 hE8 hsec hrows hv1' hv2' hN e5 e6 Hlen1 Hin1 y0 y1 y2 g0 g1 g2
  go_wp2_with fail
  go_ret
  refine ⟨rfl, ?_, HF.out.2⟩
  rw [← Hm.out]
  exact HF.out.1
theorem insert_at {w : World} {b : Nat} {f s l : List Int} {S : Nat → Prop} {pl : Option Addr} {cl : Nat} {ps : List Pc} {long pos : Nat} (h : TabAt w b f s ps long) (hin : PcsIn f s ps) (hf : f.length ≤ 1000000) (hs : s.length ≤ 1000000) (hps : ps.length ≤ 1000000) (hl : long ≤ 1000000) (hpn : pos ≤ long)
    (hx : CharRd w S (.slice pl l.length cl) l) (hxn : NilOk (.slice pl l.length cl)) (hn0 : 0 < l.length) (hn : l.length ≤ 1000000) :
    Calls Try.prog 12 #[.pointer (some ⟨b, 0, none⟩), .int .i64 pos, .slice pl l.length cl] w (Changed w b f (s ++ l) (insertL ps pos s.length l.length) (long + l.length)) :=
  (insert_any h (fun h => h rfl) hin hf hs hps hl hpn hx hxn hn0 hn).mono fun _ _ h' => h'.at h.lt
end Go.Proofs.Ytelaiafpfaohfaa
