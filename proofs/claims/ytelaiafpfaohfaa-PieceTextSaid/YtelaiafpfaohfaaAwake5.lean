/-
  The law's awake (chapter 5): it answers true.
-/
import Derived.Test.YtelaiafpfaohfaaSame5
namespace Go.Proofs.Ytelaiafpfaohfaa
open Go.RowKit
set_option linter.unusedSimpArgs false
set_option linter.unusedVariables false

theorem chars_at {w : World} {s : ByteArray} {l : List Int} (hl : charsOf s = l) (hn : s.size ≤ 1000000) :
    Calls Try.prog 22 #[.string s] w fun e w' => ∃ p c, e = .returned (.slice p l.length c) ∧ Hid (CharOwn w' w.heap.size (.slice p l.length c) l ∧ Below w.heap.size w w') := by
  refine (chars_any hn).mono ?_
  rintro e w' ⟨v, rfl, ho, hX⟩
  rw [hl] at ho
  obtain ⟨p, c, rfl⟩ := own_slice ho
  exact ⟨p, c, rfl, Lib.hid ⟨ho, hX⟩⟩

set_option maxHeartbeats 3200000 in
theorem awake5 {w : World} : Calls Try.prog 28 #[] w fun e w' => e = .returned (.bool true) ∧ Below w.heap.size w w' := by
  go_enter Try.func28, Try.ntmps28
  go_wp2_with fail
  refine (chars_at (l := [104, 101, 108, 108, 111]) (by decide) (by decide)).mono ?_
  rintro e w1 ⟨q1, d1, rfl, H1⟩
  go_wp2_with fail
  refine (new_any (l := [104, 101, 108, 108, 111]) H1.out.1.rd (by decide)).mono ?_
  intro e w2 hnew
  obtain ⟨b, rfl, hb, hT, hX⟩ := hnew.at
  have HT := Lib.hid hT
  have HX2 := Lib.hid (H1.out.2.trans (hX.mono H1.out.2.size))
  have Hb := Lib.hid (Nat.le_trans H1.out.2.size hb)
  clear hb hT hX
  go_wp2_with fail
  refine (chars_at (l := [32, 97]) (by decide) (by decide)).mono ?_
  rintro e w3 ⟨q2, d2, rfl, H2⟩
  have HT2 := Lib.hid (HT.out.below H2.out.2)
  have HX3 := Lib.hid (HX2.out.trans (H2.out.2.mono HX2.out.size))
  clear HT HX2
  go_wp2_with fail
  refine (insert_at (pos := 5) (l := [32, 97]) HT2.out (by unfold PcsIn; decide) (by decide) (by decide) (by decide) (by decide) (by decide) H2.out.1.rd (NilOk.own H2.out.1) (by decide) (by decide)).mono ?_
  rintro e w4 ⟨rfl, hT, hE⟩
  have HT4 := Lib.hid (show TabAt w4 b [104, 101, 108, 108, 111] [32, 97] [⟨false, 0, 5⟩, ⟨true, 0, 2⟩] 7 from hT)
  have HX4 := Lib.hid (Ext.from HX3.out hE (fun k hk => by subst hk; exact Hb.out))
  clear HT2 HX3 hT hE
  go_wp2_with fail
  refine (chars_at (l := [98]) (by decide) (by decide)).mono ?_
  rintro e w5 ⟨q3, d3, rfl, H3⟩
  have HT5 := Lib.hid (HT4.out.below H3.out.2)
  have HX5 := Lib.hid (HX4.out.trans (H3.out.2.mono HX4.out.size))
  clear HT4 HX4
  go_wp2_with fail
  refine (insert_at (pos := 7) (l := [98]) HT5.out (by unfold PcsIn; decide) (by decide) (by decide) (by decide) (by decide) (by decide) H3.out.1.rd (NilOk.own H3.out.1) (by decide) (by decide)).mono ?_
  rintro e w6 ⟨rfl, hT, hE⟩
  have HT6 := Lib.hid (show TabAt w6 b [104, 101, 108, 108, 111] [32, 97, 98] [⟨false, 0, 5⟩, ⟨true, 0, 3⟩] 8 from hT)
  have HX6 := Lib.hid (Ext.from HX5.out hE (fun k hk => by subst hk; exact Hb.out))
  clear HT5 HX5 hT hE
  go_wp2_with fail
  refine (delete_at (pos := 1) (n := 3) HT6.out (by unfold PcsIn; decide) (by decide) (by decide) (by decide) (by decide) (by decide) (by decide)).mono ?_
  rintro e w7 ⟨rfl, hT, hE⟩
  have HT7 := Lib.hid (show TabAt w7 b [104, 101, 108, 108, 111] [32, 97, 98] [⟨false, 0, 1⟩, ⟨false, 4, 1⟩, ⟨true, 0, 3⟩] 5 from hT)
  have HX7 := Lib.hid (Ext.from HX6.out hE (fun k hk => by subst hk; exact Hb.out))
  clear HT6 HX6 hT hE
  go_wp2_with fail
  refine (chars_at (l := [101, 108, 108]) (by decide) (by decide)).mono ?_
  rintro e w8 ⟨q4, d4, rfl, H4⟩
  have HT8 := Lib.hid (HT7.out.below H4.out.2)
  have HX8 := Lib.hid (HX7.out.trans (H4.out.2.mono HX7.out.size))
  clear HT7 HX7
  go_wp2_with fail
  refine (insert_at (pos := 1) (l := [101, 108, 108]) HT8.out (by unfold PcsIn; decide) (by decide) (by decide) (by decide) (by decide) (by decide) H4.out.1.rd (NilOk.own H4.out.1) (by decide) (by decide)).mono ?_
  rintro e w9 ⟨rfl, hT, hE⟩
  have HT9 := Lib.hid (show TabAt w9 b [104, 101, 108, 108, 111] [32, 97, 98, 101, 108, 108] [⟨false, 0, 1⟩, ⟨true, 3, 3⟩, ⟨false, 4, 1⟩, ⟨true, 0, 3⟩] 8 from hT)
  have HX9 := Lib.hid (Ext.from HX8.out hE (fun k hk => by subst hk; exact Hb.out))
  clear HT8 HX8 hT hE
  go_wp2_with fail
  refine (pieces_any HT9.out (by decide)).mono ?_
  rintro e wA ⟨v, rfl, ho, hX⟩
  obtain ⟨g, c, rfl, -, hgc, hcl, -⟩ := own_pos ho (by decide)
  have HTA := Lib.hid (HT9.out.below hX)
  have HXA := Lib.hid (HX9.out.trans (hX.mono HX9.out.size))
  have Hcl := Lib.hid hcl
  have hg0 : wA.cell? ⟨g, 0, none⟩ = some (.bool false) := hcl 0 _ rfl
  have Hglt := Lib.hid (lt_of_cell hg0)
  have hgc4 : 4 ≤ c := hgc
  clear HT9 HX9 ho hX hcl hg0 hgc
  go_wp2_with fail
  refine (text_any HTA.out (by unfold PcsIn; decide) (by decide) (by decide) (by decide) (by decide) (by decide)).mono ?_
  rintro e wB ⟨v, rfl, ho, hX⟩
  have ho' : CharOwn wB wA.heap.size v [104, 101, 108, 108, 111, 32, 97, 98] := ho
  have HO := Lib.hid ho'
  have HXB := Lib.hid hX
  clear ho ho' hX
  go_wp2_with fail
  refine (chars_at (l := [104, 101, 108, 108, 111, 32, 97, 98]) (by decide) (by decide)).mono ?_
  rintro e wC ⟨q5, d5, rfl, H5⟩
  go_wp2_with fail
  refine (same5 (CharRd.below HO.out.rd H5.out.2) H5.out.1.rd (by decide) (by decide)).mono ?_
  rintro e wD ⟨rfl, hXD⟩
  have hXY := HXB.out.trans ((H5.out.2.mono HXB.out.size).trans (hXD.mono (Nat.le_trans HXB.out.size H5.out.2.size)))
  have HXZ := Lib.hid (HXA.out.trans (hXY.mono HXA.out.size))
  have kc : ∀ j u, (pcells [⟨false, 0, 1⟩, ⟨true, 3, 3⟩, ⟨false, 4, 1⟩, ⟨true, 0, 3⟩])[j]? = some u → wD.cell? ⟨g, j, none⟩ = some u := fun j u h => (hXY.cell (p := ⟨g, j, none⟩) Hglt.out).trans (Hcl.out j u h)
  have c0 : wD.cell? ⟨g, 0, none⟩ = some (.bool false) := kc 0 _ rfl
  have c1 : wD.cell? ⟨g, 1, none⟩ = some (.int .i64 0) := kc 1 _ rfl
  have c2 : wD.cell? ⟨g, 2, none⟩ = some (.int .i64 1) := kc 2 _ rfl
  have c3 : wD.cell? ⟨g, 3, none⟩ = some (.bool true) := kc 3 _ rfl
  have c4 : wD.cell? ⟨g, 4, none⟩ = some (.int .i64 3) := kc 4 _ rfl
  have c5 : wD.cell? ⟨g, 5, none⟩ = some (.int .i64 3) := kc 5 _ rfl
  have c6 : wD.cell? ⟨g, 6, none⟩ = some (.bool false) := kc 6 _ rfl
  have c7 : wD.cell? ⟨g, 7, none⟩ = some (.int .i64 4) := kc 7 _ rfl
  have c8 : wD.cell? ⟨g, 8, none⟩ = some (.int .i64 1) := kc 8 _ rfl
  have c9 : wD.cell? ⟨g, 9, none⟩ = some (.bool true) := kc 9 _ rfl
  have c10 : wD.cell? ⟨g, 10, none⟩ = some (.int .i64 0) := kc 10 _ rfl
  have c11 : wD.cell? ⟨g, 11, none⟩ = some (.int .i64 3) := kc 11 _ rfl
  clear kc hXY hXD
  go_wp2_with fail
  go_ret
  exact ⟨rfl, HXZ.out⟩
end Go.Proofs.Ytelaiafpfaohfaa
