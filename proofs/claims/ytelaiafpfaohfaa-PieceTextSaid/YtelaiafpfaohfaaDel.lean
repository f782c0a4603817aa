/-
  piece.Table.Delete: the contract. No condition but bounds far below what memory bears.
-/
import Derived.Test.YtelaiafpfaohfaaRead
namespace Go.Proofs.Ytelaiafpfaohfaa
open Go.RowKit
set_option linter.unusedSimpArgs false
set_option linter.unusedVariables false

def deleteL (ps : List Pc) (pos n : Nat) : List Pc := joinL [(partL ps pos).1, (partL (partL ps pos).2 n).2]
/-- What a change leaves. -/
def ChangedS (w : World) (S : Nat → Prop) (b : Nat) (f s : List Int) (ps : List Pc) (n : Nat) (e : Ending) (w' : World) : Prop := e = .returned (.int .i64 0) ∧ TabS w' (NewOr S w) b f s ps n ∧ Ext (fun k => k = b) w w'
def Changed (w : World) (b : Nat) (f s : List Int) (ps : List Pc) (n : Nat) (e : Ending) (w' : World) : Prop := e = .returned (.int .i64 0) ∧ TabAt w' b f s ps n ∧ Ext (fun k => k = b) w w'
theorem rows2 {w : World} {S1 S2 : Nat → Prop} {v1 v2 : Value} {l1 l2 : List Pc} (h1 : PcsRd w S1 v1 l1) (h2 : PcsRd w S2 v2 l2) (t : TypeId) : RowsRd (w.alloc (.cells #[v1, v2] t)) (.slice (some ⟨w.heap.size, 0, none⟩) 2 2) [l1, l2] := by
  have k1 : PcsRd (w.alloc (.cells #[v1, v2] t)) (fun _ => True) v1 l1 := Rd.weak (Rd.alloc h1 (by decide) _) (fun _ _ _ => trivial) (by decide)
  have k2 : PcsRd (w.alloc (.cells #[v1, v2] t)) (fun _ => True) v2 l2 := Rd.weak (Rd.alloc h2 (by decide) _) (fun _ _ _ => trivial) (by decide)
  refine ⟨[v1, v2], ⟨rfl, _, _, rfl, Nat.le_refl _, by unfold maxLen; decide, fun _ => ⟨_, 0, rfl, trivial, fun j u hu => ?_⟩⟩, fun i hi => ?_⟩
  · rw [Nat.zero_add, (Blk.new w t #[v1, v2]).cell j]
    simpa using hu
  · match i, hi with
    | 0, _ => exact ⟨v1, rfl, k1⟩
    | 1, _ => exact ⟨v2, rfl, k2⟩
theorem tab_set {w w3 : World} {S : Nat → Prop} {b : Nat} {f s : List Int} {ps' : List Pc} {n m : Nat} {vf vs vp v : Value} (hS : ¬ S b) (hlt : b < w.heap.size) (hB : Blk w3 b 63 #[vf, vs, vp, .int .i64 n, .bool true]) (hf : CharRd w3 S vf f) (hs : CharRd w3 S vs s) (hnf : NilOk vf) (hns : NilOk vs)
    (ho : PcsOwn w3 w.heap.size v ps') (hX : Below w.heap.size w w3) : TabS ((w3.setCell ⟨b, 2, none⟩ v).setCell ⟨b, 3, none⟩ (.int .i64 m)) (NewOr S w) b f s ps' m ∧ Ext (fun k => k = b) w ((w3.setCell ⟨b, 2, none⟩ v).setCell ⟨b, 3, none⟩ (.int .i64 m)) := by
  have hE : Ext (fun k => k = b) w3 ((w3.setCell ⟨b, 2, none⟩ v).setCell ⟨b, 3, none⟩ (.int .i64 m)) := Ext.set1 (M := fun k => k = b) (Ext.set1 (M := fun k => k = b) (Ext.refl _ w3) rfl) rfl
  have hp : PcsRd w3 (NewOr S w) v ps' := Rd.weak ho.rd (fun k hk _ => .inr hk.1) (by decide)
  have hN : ∀ k, NewOr S w k → ¬ k = b := by
    rintro k (hk | hk) rfl
    · exact hS hk
    · omega
  exact ⟨⟨vf, vs, v, (hB.set_ 2 v).set_ 3 _, Rd.ext (Rd.weak hf (fun _ h _ => .inl h) (by decide)) hE hN (by decide), Rd.ext (Rd.weak hs (fun _ h _ => .inl h) (by decide)) hE hN (by decide), Rd.ext hp hE hN (by decide), hnf, hns⟩, (Ext.of_below _ hX).trans hE⟩

set_option maxHeartbeats 3200000 in
theorem delete_any {w : World} {S : Nat → Prop} {b : Nat} {f s : List Int} {ps : List Pc} {long pos n : Nat} (h : TabS w S b f s ps long) (hS : ¬ S b) (hin : PcsIn f s ps) (hf : f.length ≤ 1000000) (hs : s.length ≤ 1000000) (hps : ps.length ≤ 1000000) (hl : long ≤ 1000000) (hpn : pos + n ≤ long) (hn0 : 0 < n) :
    Calls Try.prog 14 #[.pointer (some ⟨b, 0, none⟩), .int .i64 pos, .int .i64 n] w (ChangedS w S b f s (deleteL ps pos n) (long - n)) := by
  obtain ⟨vf, vs, vp, hB, hf', hs', hp, hnf, hns⟩ := h
  have hright := tab_right (pos := pos) (n := n) hB (by omega) (by omega) (by omega)
  rw [show inText long pos n = true from by unfold inText; exact decide_eq_true (by omega), if_pos rfl] at hright
  have Hr := Lib.hid hright
  have Hp := Lib.hid hp
  have HB := Lib.hid hB
  have Hf := Lib.hid hf'
  have Hs := Lib.hid hs'
  have Hnn := Lib.hid (And.intro hnf hns)
  have Hin := Lib.hid hin
  have a2 : w.cell? ⟨b, 2, none⟩ = some vp := hB.cell 2
  clear hright hf' hs' hp hnf hns hB hin
  go_enter Try.func14, Try.ntmps14
  go_wp2_with fail
  refine Hr.out.mono ?_
  rintro e w' ⟨rfl, rfl⟩
  go_wp2_with fail
  refine (part_any Hp.out (Hin.out.ok hf hs) hps (by omega)).mono ?_
  rintro e w1 ⟨v1, v2, rfl, hv1, hv2, hX1⟩
  obtain ⟨n1, p1, c1, rfl⟩ : ∃ n p c, v1 = .slice p n c := (by obtain ⟨p, c, h⟩ := Rd.slice hv1; exact ⟨_, p, c, h⟩)
  have Hv1 := Lib.hid hv1
  have Hv2 := Lib.hid hv2
  have HX1 := Lib.hid hX1
  have Hin1 := Lib.hid (partL_in ps pos Hin.out)
  have Hlen1 := Lib.hid (partL_len ps pos)
  clear hv1 hv2 hX1
  go_wp2_with fail
  refine (part_any Hv2.out (Hin1.out.2.ok hf hs) (Nat.le_trans Hlen1.out.2 hps) (by omega)).mono ?_
  rintro e w2 ⟨v3, v4, rfl, hv3, hv4, hX2⟩
  obtain ⟨n4, p4, c4, rfl⟩ : ∃ n p c, v4 = .slice p n c := (by obtain ⟨p, c, h⟩ := Rd.slice hv4; exact ⟨_, p, c, h⟩)
  have Hrows := Lib.hid (rows2 (Hv1.out.below hX2) hv4 50)
  have hX3 := HX1.out.trans (hX2.mono HX1.out.size)
  have HX3 := Lib.hid (hX3.alloc hX3.size (.cells #[.slice p1 n1 c1, .slice p4 n4 c4] 50))
  have hin3 := (partL_in (partL ps pos).2 n Hin1.out.2).2
  have hlen3 := (partL_len (partL ps pos).2 n).2
  have Hj := Lib.hid (joined_any Hrows.out (by
      have e1 := Hin1.out.1.ok hf hs
      have e2 := hin3.ok hf hs
      intro p hp
      simp at hp
      rcases hp with hp | hp
      · exact e1 p hp
      · exact e2 p hp) (by have := Hlen1.out; simp; omega) (by simp))
  clear hv3 hv4 hX2 hX3 hin3 hlen3
  go_wp2_with fail
  refine Hj.out.mono ?_
  rintro e w3 ⟨v, rfl, ho, hX4⟩
  have hX5 := HX3.out.trans (hX4.mono HX3.out.size)
  have HB3 := Lib.hid (HB.out.below hX5)
  have hm3 : w3.cell? ⟨b, 3, none⟩ = some (.int .i64 (long : Int)) := HB3.out.cell 3
  have hm2 : w3.cell? ⟨b, 2, none⟩ = some vp := HB3.out.cell 2
  have hf2 : w3.frozen? ⟨b, 2, none⟩ = false := HB3.out.frozen 2
  have hf3 : w3.frozen? ⟨b, 3, none⟩ = false := HB3.out.frozen 3
  obtain ⟨n5, p5, c5, rfl⟩ : ∃ n p c, v = .slice p n c := (by obtain ⟨p, c, h⟩ := own_slice ho; exact ⟨_, p, c, h⟩)
  obtain ⟨m, hm⟩ : ∃ m, m = long - n := ⟨_, rfl⟩
  have hw : IntKind.i64.wrap ((long : Int) - (n : Int)) = (m : Int) := by rw [IntKind.wrap_i64]; omega
  have Hm := Lib.hid hm
  have HF := Lib.hid (tab_set (m := m) hS HB.out.lt HB3.out (Hf.out.below hX5) (Hs.out.below hX5) Hnn.out.1 Hnn.out.2 (own_base ho HX3.out.size) hX5)
  clear ho hX4 hX5 hm
  go_wp2_with fail
  go_ret
  refine ⟨rfl, ?_, HF.out.2⟩
  rw [← Hm.out]
  exact HF.out.1
theorem ChangedS.at {w : World} {b : Nat} {f s : List Int} {ps : List Pc} {n : Nat} {e : Ending} {w' : World} (hlt : b < w.heap.size) (h : ChangedS w (fun k => k ≠ b) b f s ps n e w') : Changed w b f s ps n e w' := by
  obtain ⟨he, ⟨vf, vs, vp, hB, hf, hs, hp, hn⟩, hE⟩ := h
  have hN : ∀ k, NewOr (fun k => k ≠ b) w k → k < w'.heap.size → k ≠ b := by
    rintro k (hk | hk) _
    · exact hk
    · omega
  exact ⟨he, ⟨vf, vs, vp, hB, Rd.weak hf hN (by decide), Rd.weak hs hN (by decide), Rd.weak hp hN (by decide), hn⟩, hE⟩
theorem TabAt.lt {w : World} {b : Nat} {f s : List Int} {ps : List Pc} {n : Nat} (h : TabAt w b f s ps n) : b < w.heap.size := by
  obtain ⟨vf, vs, vp, hB, _⟩ := h
  exact hB.lt
theorem delete_at {w : World} {b : Nat} {f s : List Int} {ps : List Pc} {long pos n : Nat} (h : TabAt w b f s ps long) (hin : PcsIn f s ps) (hf : f.length ≤ 1000000) (hs : s.length ≤ 1000000) (hps : ps.length ≤ 1000000) (hl : long ≤ 1000000) (hpn : pos + n ≤ long) (hn0 : 0 < n) :
    Calls Try.prog 14 #[.pointer (some ⟨b, 0, none⟩), .int .i64 pos, .int .i64 n] w (Changed w b f s (deleteL ps pos n) (long - n)) :=
  (delete_any h (fun h => h rfl) hin hf hs hps hl hpn hn0).mono fun _ _ h' => h'.at h.lt
end Go.Proofs.Ytelaiafpfaohfaa
