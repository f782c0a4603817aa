/-
  Votes: the contracts of Below (maps.DeleteFunc) and Copy (maps.Clone).
-/
import Derived.Test.YtgmekodfkhihiaaVAdd
import Derived.Laws.IdiomRangeMap
import Derived.Laws.Externs
import Derived.WalkKit
namespace Go.Proofs.Ytgmekodfkhihiaa
open Go.RowKit Go.Maps
set_option linter.unusedSimpArgs false
set_option linter.unusedVariables false

set_option maxHeartbeats 3200000 in
set_option maxRecDepth 100000 in
theorem below_1 {w : World} {bx : Nat} {kd v vn : Int} {l : List Bool} (hl : l.length = 7) (hb : Blk w bx 28 #[.int .u64 vn]) :
    Calls Try.prog 48 #[mat kd v, bval l, .pointer (some ⟨bx, 0, none⟩)] w fun x w' => x = .returned (.bool (decide (v < vn))) ∧ Below w.heap.size w w' := by
  obtain ⟨a0, a1, a2, a3, a4, a5, a6, rfl⟩ := seven hl
  obtain ⟨b0, f0, hz⟩ := hb.c1
  clear hb
  show Calls Try.prog 48 #[.agg #[.int .i64 kd, .int .u64 v, .int .u64 0], .agg #[.bool a0, .bool a1, .bool a2, .bool a3, .bool a4, .bool a5, .bool a6], .pointer (some ⟨bx, 0, none⟩)] w _
  go_enter Try.func48, Try.ntmps48
  go_wp2_with fail
  go_ret
  refine ⟨rfl, ?_⟩
  exact ((Below.refl _ w).alloc (Nat.le_refl _) _).alloc (by simp) _

/-- What Below leaves of the map. -/
def AfterBelow (v vn : Int) (g : Nat) (t h : List Bool) (w' : World) : Prop := (v < vn → VMap w' g vn no7 no7) ∧ (¬ v < vn → VMap w' g v t h)
set_option maxHeartbeats 6400000 in
set_option maxRecDepth 100000 in
theorem maps_DeleteFunc {w : World} {g bx : Nat} {v vn : Int} {t h : List Bool} (H : VMap w g v t h) (hvn : (Lit.int .u64 vn).wf = true) (hb : Blk w bx 28 #[.int .u64 vn]) (hle : v ≤ vn) :
    Calls Try.prog 47 #[.map (some g), .func (.func 48) #[] #[.pointer (some ⟨bx, 0, none⟩)]] w fun x w' => x = .returned (.tuple #[]) ∧
      AfterBelow v vn g t h w' ∧ Ext (fun j => j = g) w w' := by
  obtain ⟨⟨D, hown, h1, h2, h3⟩, hv, l1, l2⟩ := H
  obtain ⟨es0, rfl, hap, hkeys⟩ := hown.entries law22
  have H1 := Lib.hid h1
  have H2 := Lib.hid h2
  have H3 := Lib.hid h3
  have Hb := Lib.hid hb
  have hbg : bx ≠ g := by
    rintro rfl
    obtain ⟨es, clock, hh, -⟩ := hown
    unfold Blk at hb
    rw [hh] at hb
    cases hb
  have Hbg := Lib.hid hbg
  have Hap := Lib.hid hap
  have Hk := Lib.hid hkeys
  clear h1 h2 h3 hb hbg hap hkeys
  go_enter Try.func47, Try.ntmps47
  go_wp2_with (first
    | (at_range; refine wpList_range_own _ rfl _ 97 rfl 84 101 law22 Try.underlying97 RB g 2 _ rfl hown ?_; intro w0 hrg0 hg0 hs0)
    | go_in)
  go_frame
  go_loopw [8] (fun _ wr => ∃ (left : Lit → Bool) (cnt : Nat), wr.ranges Try.prog 84 RB g w.heap.size 2 (Fk (fun _ _ => decide (v < vn)) es0 left) left cnt ∧ w.grownBy wr (some g) ∧ Hid (∀ kl, left kl = true → has (DataW.map es0) kl = true))
    (fun _ wr => wr.rangeLeft g w.heap.size)
  case atStart => exact ⟨_, _, by rw [Fk_start Hk.out]; exact hrg0, hg0.but _, Lib.hid fun kl h => h⟩
  case round =>
    obtain ⟨left, cnt, hrg, hgw, hleft⟩ := hrel
    go_wp2_with (first
      | (at_next; refine wpList_next_ranges _ rfl _ rfl 84 law22 RB id id (fun key _ _ => ⟨key, rfl⟩) (fun v _ _ => ⟨v, rfl⟩) g w.heap.size 2 _ _ _ rfl hrg ?_ ?_)
      | go_in)
    · intro _ hl0
      go_wp2
      refine bodyPost_end (results_none rfl _ _ _) rfl ⟨rfl, ?_, ?_⟩
      · have hend := Fk_end (pd := fun _ _ => decide (v < vn)) (es0 := es0) hl0
        have ho := hrg.owns
        rw [hend] at ho
        constructor
        · intro hlt
          have e : Lib.deleteFuncD (fun _ _ => decide (v < vn)) (DataW.map es0) = .map [] := by simp [Lib.deleteFuncD, hlt]
          rw [e] at ho
          exact ⟨⟨_, ho, rfl, rfl, fun kl h => by simp [has] at h⟩, hvn, rfl, rfl⟩
        · intro hlt
          have e : Lib.deleteFuncD (fun _ _ => decide (v < vn)) (DataW.map es0) = .map es0 := by simp [Lib.deleteFuncD, hlt]
          rw [e] at ho
          exact ⟨⟨_, ho, H1.out, H2.out, H3.out⟩, hv, l1, l2⟩
      · exact ⟨hgw.os, hgw.tape, hgw.output, hgw.size, fun j hj hn => hgw.block j hj (fun e => hn (by injection e with e))⟩
    · intro x c kl yd yp w1 cnt1 hkey hlx hc hat hrg1 hlt hg1 hs1 hen
      obtain ⟨l, rfl, hyl, hl7⟩ := RB_any hc
      obtain ⟨kd, rfl⟩ : ∃ kd, x = mat kd v := by
        rcases H3.out kl (hleft.out kl hlx) with rfl | rfl
        · exact ⟨1, key_is kwf1 hv hkey⟩
        · exact ⟨2, key_is kwf2 hv hkey⟩
      have hgw1 := hgw.andThen hg1 (fun j hj => by cases hj; exact Or.inl (Nat.le_refl _))
      have hb1 : Blk w1 bx 28 #[.int .u64 vn] := (hgw1.block bx Hb.out.lt (fun e => Hbg.out (by injection e with e))).trans Hb.out
      have Hb1 := Lib.hid hb1
      have Hl7 := Lib.hid hl7
      have Hkey := Lib.hid hkey
      have Hlx := Lib.hid hlx
      have Hat := Lib.hid hat
      have Hrg1 := Lib.hid hrg1
      have Hrg := Lib.hid hrg
      have Hgw1 := Lib.hid hgw1
      have Hlt := Lib.hid hlt
      obtain ⟨a0, a1, a2, a3, a4, a5, a6, rfl⟩ := seven hl7
      have hen' : (Instr.entry (.pointer (some ⟨w.heap.size, 0, none⟩))).run Try.prog w1 = .ok (.tuple #[.agg #[.int .i64 kd, .int .u64 v, .int .u64 0], .agg #[.bool a0, .bool a1, .bool a2, .bool a3, .bool a4, .bool a5, .bool a6]]) w1 := hen
      clear hkey hlx hat hrg1 hrg hgw1 hlt hen hb1 hl7 hc hgw hg1
      have hw12 : Below w1.heap.size w1 ((w1.alloc (.cells #[.int .i64 kd, .int .u64 v, .int .u64 0] 84)).alloc (.cells #[.bool a0, .bool a1, .bool a2, .bool a3, .bool a4, .bool a5, .bool a6] 101)) := ((Below.refl w1.heap.size w1).alloc (Nat.le_refl _) _).alloc (by simp) _
      have kK := (Blk.new w1 84 #[.int .i64 kd, .int .u64 v, .int .u64 0]).alloc (.cells #[.bool a0, .bool a1, .bool a2, .bool a3, .bool a4, .bool a5, .bool a6] 101)
      have HW12 := Lib.hid hw12
      have KK := Lib.hid kK
      clear hw12 kK
      go_wp2_with fail
      refine (below_1 (kd := kd) (v := v) (vn := vn) (l := [a0, a1, a2, a3, a4, a5, a6]) rfl (Hb1.out.below HW12.out)).mono ?_
      rintro e w2 ⟨rfl, hX⟩
      have hX2 := HW12.out.trans (hX.mono HW12.out.size)
      have hg2 : w1.grownBy w2 none := ⟨hX2.os, hX2.tape, hX2.output, hX2.size, fun j hj _ => hX2.block j hj⟩
      have hrg2 := Hrg1.out.kept hg2 (by simp) (by simp)
      have Hg2 := Lib.hid (Hgw1.out.andThen hg2 (fun j hj => by cases hj))
      have kK2 := KK.out.below hX
      rw [hs1] at kK2
      obtain ⟨k0, k1, k2, -⟩ := kK2.c3
      have Hleft := Lib.hid (show ∀ z, (left z && !z.sameKey kl) = true → has (DataW.map es0) z = true from fun z h => hleft.out z (by simp at h; exact h.1))
      clear hX hX2 hg2 kK2 HW12 KK
      by_cases hvv : v < vn
      · have hd : decide (v < vn) = true := by simpa using hvv
        have Hd := Lib.hid hd
        rw [hd]
        clear hd hvv
        go_wp2_with (first
          | (at_delete; refine wpList_delete_ranges _ rfl _ _ 97 84 rfl 101 law22 Try.underlying97 RB g w.heap.size 2 _ _ _ rfl hrg2 (mat kd v) kl rfl Hkey.out ?_; intro w3 cnt3 hrg3 hle hturn; go_frame)
          | go_in)
        rw [strike_twice] at hrg3
        go_roundw
        case rel =>
          refine ⟨_, cnt3, ?_, Hg2.out.andThen hturn.grown (fun j hj => by cases hj; exact Or.inr rfl), Hleft⟩
          rw [← Fk_struck Hap.out (law22.key Hkey.out) Hlx.out Hd.out Hat.out]
          exact hrg3
        case measure => rw [hrg3.left_eq, Hrg.out.left_eq]; have := Hlt.out; omega
      · have hd : decide (v < vn) = false := by simpa using hvv
        have Hd := Lib.hid hd
        rw [hd]
        clear hd hvv
        have Hrg2 := Lib.hid hrg2
        clear hrg2
        go_wp2_with fail
        go_roundw
        case rel =>
          refine ⟨_, cnt1, ?_, Hg2.out, Hleft⟩
          rw [← Fk_stays Hap.out (law22.key Hkey.out) Hlx.out Hd.out Hat.out]
          exact Hrg2.out
        case measure => rw [Hrg2.out.left_eq, Hrg.out.left_eq]; exact Hlt.out

set_option maxHeartbeats 3200000 in
theorem votes_Below {w : World} {vb g : Nat} {n v vn : Int} {t h : List Bool} (H : VAt w vb g n v t h) (hvn : (Lit.int .u64 vn).wf = true) (hle : v ≤ vn) :
    Calls Try.prog 29 #[.pointer (some ⟨vb, 0, none⟩), .int .u64 vn] w fun x w' => x = .returned (.tuple #[]) ∧ AfterBelow v vn g t h w' ∧ Ext (fun j => j = g) w w' := by
  have hb1 := (Below.refl w.heap.size w).alloc (Nat.le_refl _) (.cells #[.int .u64 vn] 28)
  have kX := Blk.new w 28 #[.int .u64 vn]
  have HH := Lib.hid (H.below hb1)
  have HB := Lib.hid hb1
  have KX := Lib.hid kX
  obtain ⟨q0, q1, -⟩ := HH.out.k.c2
  clear H hb1 kX
  go_enter Try.func29, Try.ntmps29
  go_wp2_with fail
  generalize w.alloc (.cells #[.int .u64 vn] 28) = W at *
  refine (votes_none HH.out).mono ?_
  rintro x _ ⟨rfl, rfl⟩
  go_wp2_with fail
  refine (maps_DeleteFunc HH.out.m hvn KX.out hle).mono ?_
  rintro x w1 ⟨rfl, hA, hE⟩
  have HA := Lib.hid hA
  have HE := Lib.hid ((Ext.of_below (fun j => j = g) HB.out).trans hE)
  clear hA hE q0 q1
  go_wp2_with fail
  exact bodyPost_end (results_none rfl _ _ _) rfl ⟨rfl, HA.out, HE.out⟩
end Go.Proofs.Ytgmekodfkhihiaa
