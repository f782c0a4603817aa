/-
  PieceTyped's walk: it returns true. (Printed by wip/gen_typed.py.)
-/
import Derived.Test.YtelaiafpfaohfaaTypedL
import Derived.Test.YtelaiafpfaohfaaEq5
import Derived.Test.YtelaiafpfaohfaaActs
import Derived.Test.YtelaiafpfaohfaaPlaysL
import Derived.Test.YtelaiafpfaohfaaAwake5
namespace Go.Proofs.Ytelaiafpfaohfaa
open Go.RowKit
set_option linter.unusedSimpArgs false
set_option linter.unusedVariables false

theorem take_own {w : World} {p : Option Addr} {c m : Nat} {S : Nat → Prop} {l x : List Int} (h : CharRd w S (.slice p l.length c) l) (hx : l.take m = x) : CharRd w S (.slice p x.length c) x ∧ x.length ≤ m ∧ x.length ≤ l.length := by
  subst hx
  rw [List.length_take]
  refine ⟨?_, by omega, by omega⟩
  rcases Nat.le_total m l.length with hm | hm
  · have h1 := CharRd.front h hm
    rw [Nat.min_eq_left hm]
    exact h1
  · rw [Nat.min_eq_right hm, List.take_of_length_le hm]
    exact h
/-- The table's rows are the call's own. -/
def OwnS (n0 b : Nat) : Nat → Prop := fun j => n0 ≤ j ∧ j ≠ b
theorem OwnS.or {n0 b : Nat} {w w' : World} {t : Tb} (h : TbAt w' (NewOr (OwnS n0 b) w) b t) (hn : n0 ≤ w.heap.size) (hb : b < w.heap.size) : TbAt w' (OwnS n0 b) b t := h.weak (by
  rintro j (hj | hj) _
  · exact hj
  · exact ⟨by omega, by omega⟩)

set_option maxHeartbeats 12800000 in
set_option maxRecDepth 100000 in
theorem typed_walk {w : World} {v v2 : Value} {at_ : Int} {text typed : List Int} (ht : CharRd w (fun j => j < w.heap.size) v text) (hy : CharRd w (fun j => j < w.heap.size) v2 typed) (ha0 : 0 ≤ at_) (ha : at_ ≤ 65535) :
    Calls Try.prog 4 #[v, .int .u16 at_, v2] w fun e w' => e = .returned (.bool true) ∧ Below w.heap.size w w' := by
  obtain ⟨p, c, rfl⟩ := Rd.slice ht
  obtain ⟨p2, c2, rfl⟩ := Rd.slice hy
  have hlc : text.length ≤ c ∧ c ≤ maxLen := by obtain ⟨_, _, _, h, h1, h2, _⟩ := ht; injection h with _ _ h; subst h; exact ⟨h1, h2⟩
  have hlc2 : typed.length ≤ c2 ∧ c2 ≤ maxLen := by obtain ⟨_, _, _, h, h1, h2, _⟩ := hy; injection h with _ _ h; subst h; exact ⟨h1, h2⟩
  unfold maxLen at hlc hlc2
  obtain ⟨tx, htx⟩ : ∃ x, text.take 300 = x := ⟨_, rfl⟩
  obtain ⟨ty, hty⟩ : ∃ x, typed.take 60 = x := ⟨_, rfl⟩
  obtain ⟨hr0, hx300, hxl⟩ := take_own ht htx
  obtain ⟨hr1, hy60, hyl⟩ := take_own hy hty
  have hm : (if (300 : Int) < (text.length : Int) then (300 : Int) else (text.length : Int)) = (tx.length : Int) := by rw [← htx, List.length_take]; split <;> omega
  have hm2 : (if (60 : Int) < (typed.length : Int) then (60 : Int) else (typed.length : Int)) = (ty.length : Int) := by rw [← hty, List.length_take]; split <;> omega
  have hxc : (tx.length : Int) ≤ (c : Int) := by omega
  have hyc : (ty.length : Int) ≤ (c2 : Int) := by omega
  obtain ⟨n1, hn1⟩ : ∃ n, n = tx.length + 1 := ⟨_, rfl⟩
  have hw0 : IntKind.i64.wrap ((tx.length : Int) + 1) = (n1 : Int) := by rw [IntKind.wrap_i64]; omega
  obtain ⟨pos, hpos⟩ : ∃ q : Nat, at_.tmod (n1 : Int) = (q : Int) := ⟨(at_.tmod n1).toNat, by have := Int.tmod_nonneg (n1 : Int) ha0; omega⟩
  have hpl : pos ≤ tx.length := by
    have h1 := Int.tmod_lt_of_pos at_ (b := (n1 : Int)) (by omega)
    omega
  have Hr0 := Lib.hid hr0
  have Hr1 := Lib.hid hr1
  have hn10 : ¬ ((n1 : Int) = 0) := by omega
  have Hpl := Lib.hid hpl
  clear htx hty hr0 hr1 ht hy hn1 hpl
  go_enter Try.func4, Try.ntmps4
  go_wp2_with fail
  have hS : Hold0 w.drew := trivial
  refine begin_D (T := Hold0) [] (by kernel_rfl) hS (fun _ => trivial) ?_
  refine take_S (v := ?v0a) 0 rfl (by kernel_rfl) (by kernel_rfl) (by kernel_rfl) (by kernel_rfl) (fun _ _ _ h => h) hS (fun _ => trivial) rfl (fun w' hq => ?h0a) ?_
  case h0a => go_simp; try with_reducible rfl
  try simp only [Act.put, List.setIfInBounds_toArray, List.set_cons_zero, List.set_cons_succ, List.getElem_toArray, List.getElem_cons_succ, List.getElem_cons_zero]
  refine take_S (v := ?v1a) 1 rfl (by kernel_rfl) (by kernel_rfl) (by kernel_rfl) (by kernel_rfl) (fun _ _ _ h => h) hS (fun _ => trivial) rfl (fun w' hq => ?h1a) ?_
  case h1a => go_simp; try with_reducible rfl
  try simp only [Act.put, List.setIfInBounds_toArray, List.set_cons_zero, List.set_cons_succ, List.getElem_toArray, List.getElem_cons_succ, List.getElem_cons_zero]
  refine take_S (v := ?v2a) 2 rfl (by kernel_rfl) (by kernel_rfl) (by kernel_rfl) (by kernel_rfl) (fun _ _ _ h => h) hS (fun _ => trivial) rfl (fun w' hq => ?h2a) ?_
  case h2a => go_simp; try with_reducible rfl
  try simp only [Act.put, List.setIfInBounds_toArray, List.set_cons_zero, List.set_cons_succ, List.getElem_toArray, List.getElem_cons_succ, List.getElem_cons_zero]
  refine take_S (v := ?v3a) 3 rfl (by kernel_rfl) (by kernel_rfl) (by kernel_rfl) (by kernel_rfl) (fun _ _ _ h => h) hS (fun _ => trivial) rfl (fun w' hq => ?h3a) ?_
  case h3a => go_simp; try with_reducible rfl
  try simp only [Act.put, List.setIfInBounds_toArray, List.set_cons_zero, List.set_cons_succ, List.getElem_toArray, List.getElem_cons_succ, List.getElem_cons_zero]
  refine take_S (v := ?v4a) 4 rfl (by kernel_rfl) (by kernel_rfl) (by kernel_rfl) (by kernel_rfl) (fun _ _ _ h => h) hS (fun _ => trivial) rfl (fun w' hq => ?h4a) ?_
  case h4a => go_simp; try with_reducible rfl
  try simp only [Act.put, List.setIfInBounds_toArray, List.set_cons_zero, List.set_cons_succ, List.getElem_toArray, List.getElem_cons_succ, List.getElem_cons_zero]
  refine take_S (v := ?v5a) 5 rfl (by kernel_rfl) (by kernel_rfl) (by kernel_rfl) (by kernel_rfl) (fun _ _ _ h => h) hS (fun _ => trivial) rfl (fun w' hq => ?h5a) ?_
  case h5a => go_simp; try with_reducible rfl
  try simp only [Act.put, List.setIfInBounds_toArray, List.set_cons_zero, List.set_cons_succ, List.getElem_toArray, List.getElem_cons_succ, List.getElem_cons_zero]
  refine take_S (v := ?v6a) 6 rfl (by kernel_rfl) (by kernel_rfl) (by kernel_rfl) (by kernel_rfl) (fun _ _ _ h => h) hS (fun _ => trivial) rfl (fun w' hq => ?h6a) ?_
  case h6a => go_simp; try with_reducible rfl
  try simp only [Act.put, List.setIfInBounds_toArray, List.set_cons_zero, List.set_cons_succ, List.getElem_toArray, List.getElem_cons_succ, List.getElem_cons_zero]
  refine take_S (v := ?v7a) 7 rfl (by kernel_rfl) (by kernel_rfl) (by kernel_rfl) (by kernel_rfl) (fun _ _ _ h => h) hS (fun _ => trivial) rfl (fun w' hq => ?h7a) ?_
  case h7a => go_simp; try with_reducible rfl
  try simp only [Act.put, List.setIfInBounds_toArray, List.set_cons_zero, List.set_cons_succ, List.getElem_toArray, List.getElem_cons_succ, List.getElem_cons_zero]
  refine take_S (v := ?v8a) 8 rfl (by kernel_rfl) (by kernel_rfl) (by kernel_rfl) (by kernel_rfl) (fun _ _ _ h => h) hS (fun _ => trivial) rfl (fun w' hq => ?h8a) ?_
  case h8a => go_simp; try with_reducible rfl
  try simp only [Act.put, List.setIfInBounds_toArray, List.set_cons_zero, List.set_cons_succ, List.getElem_toArray, List.getElem_cons_succ, List.getElem_cons_zero]
  refine take_S (v := ?v9a) 9 rfl (by kernel_rfl) (by kernel_rfl) (by kernel_rfl) (by kernel_rfl) (fun _ _ _ h => h) hS (fun _ => trivial) rfl (fun w' hq => ?h9a) ?_
  case h9a => go_simp; try with_reducible rfl
  try simp only [Act.put, List.setIfInBounds_toArray, List.set_cons_zero, List.set_cons_succ, List.getElem_toArray, List.getElem_cons_succ, List.getElem_cons_zero]
  refine take_S (v := ?v10a) 10 rfl (by kernel_rfl) (by kernel_rfl) (by kernel_rfl) (by kernel_rfl) (fun _ _ _ h => h) hS (fun _ => trivial) rfl (fun w' hq => ?h10a) ?_
  case h10a => go_simp; try with_reducible rfl
  try simp only [Act.put, List.setIfInBounds_toArray, List.set_cons_zero, List.set_cons_succ, List.getElem_toArray, List.getElem_cons_succ, List.getElem_cons_zero]
  refine take_S (v := ?v11a) 11 rfl (by kernel_rfl) (by kernel_rfl) (by kernel_rfl) (by kernel_rfl) (fun _ _ _ h => h) hS (fun _ => trivial) rfl (fun w' hq => ?h11a) ?_
  case h11a => go_simp; try with_reducible rfl
  try simp only [Act.put, List.setIfInBounds_toArray, List.set_cons_zero, List.set_cons_succ, List.getElem_toArray, List.getElem_cons_succ, List.getElem_cons_zero]
  refine done_D (by kernel_rfl) ?_ _
  go_wp2_with fail
  refine (new_all (show CharRd w.drew _ _ tx from Hr0.out) (by omega)).mono ?_
  rintro e w1 ⟨b, rfl, hb, htb, hX1⟩
  have HX1 := Lib.hid (show Below w.heap.size w w1 from (Below.refl w.heap.size w).drew.trans hX1)
  have HT := Lib.hid (show TbAt w1 (OwnS w.heap.size b) b (Tb.new tx) ∧ w.heap.size ≤ b from ⟨htb, hb⟩)
  have Hty := Lib.hid (TypedTo.new tx pos Hpl.out)
  clear hb htb hX1 hm hm2 hS
  go_wp2_with fail
  go_loopw [35] (fun i wr => ∃ (k : Nat) (t : Tb), k ≤ ty.length ∧ i = .int .i64 k ∧ Hid (TbAt wr (OwnS w.heap.size b) b t ∧ TypedTo tx pos k t (tx.length + k) ∧ t.s.length = k ∧ Below w.heap.size w wr)) (fun i _ => ty.length - (intOf i).toNat)
  case atStart => exact ⟨0, _, Nat.zero_le _, rfl, Lib.hid ⟨HT.out.1, Hty.out, rfl, HX1.out⟩⟩
  case round =>
    obtain ⟨k, t, hk, rfl, hR⟩ := hrel
    by_cases hlt : k < ty.length
    · obtain ⟨bt, ot, he, hlcl, et⟩ := CharRd.at (Hr1.out.below hR.out.2.2.2) hlt
      subst he
      generalize ty[k]'hlt = x at *
      obtain ⟨pk, hpk⟩ : ∃ q, q = pos + k := ⟨_, rfl⟩
      have hw1 : IntKind.i64.wrap ((pos : Int) + (k : Int)) = (pk : Int) := by have := Hpl.out; rw [IntKind.wrap_i64]; omega
      obtain ⟨h1, h2, h3⟩ := hR.out.2.1.ins Hpl.out hR.out.2.2.1 x
      rw [← hpk] at h1 h2 h3
      have Hin := Lib.hid (And.intro h1 (And.intro h2 h3))
      have hbA := (Below.refl wr.heap.size wr).alloc (Nat.le_refl _) (.cells #[.int .i32 x] 29)
      have HXA := Lib.hid (hR.out.2.2.2.trans (hbA.mono hR.out.2.2.2.size))
      have HTA := Lib.hid (hR.out.1.below hbA)
      have HN := Lib.hid (one_char (w := wr) (base := 0) x (Nat.zero_le _)).rd
      have Hokk := Lib.hid hR.out.2.1.ok
      clear hbA h1 h2 h3 hpk hR
      go_wp2_with fail
      refine (ins_all (N := tx.length + k) (pos := (pk : Int)) (l := [x]) HTA.out (fun h => h.2 rfl) Hokk.out (by omega) HN.out NilOk.some (by simp)).mono ?_
      rintro e w4 ⟨rfl, htb4, hE4⟩
      rw [Hin.out.1]
      have HF := Lib.hid (OwnS.or htb4 HXA.out.size HTA.out.lt)
      have HXF := Lib.hid (Ext.from HXA.out hE4 (fun j hj => by rw [hj]; exact HT.out.2))
      clear htb4 hE4
      go_wp2_with fail
      go_roundw
      case rel => exact ⟨k + 1, (t.ins (pk : Int) [x]).2, by omega, by go_num, Lib.hid ⟨HF.out, Hin.out.2.1, Hin.out.2.2, HXF.out⟩⟩
      case measure => simp [intOf] <;> omega
    · obtain rfl : k = ty.length := by omega
      obtain ⟨hps3, hpsc⟩ := hR.out.2.1.pieces Hpl.out
      have HR := Lib.hid hR.out
      clear hR
      go_wp2_with fail
      refine (pieces_all HR.out.1 HR.out.2.1.ok (by omega)).mono ?_
      rintro e w4 ⟨v4, rfl, ho4, hX4⟩
      have Hps3 := Lib.hid hps3
      have Hpsc := Lib.hid hpsc
      generalize t.ps = ps at *
      obtain ⟨q4, d4, rfl⟩ := own_slice ho4
      have HO4 := Lib.hid ho4
      have HX4 := Lib.hid hX4
      clear ho4 hX4 hpsc
      go_wp2_with fail
      go_loopw [11, 52] (fun c i wr => ∃ k : Nat, k ≤ ps.length ∧ i = .int .i64 k ∧ c = .int .i64 ((ps.take k).countP (·.second) : Nat) ∧ Hid (Below w4.heap.size w4 wr)) (fun _ i _ => ps.length - (intOf i).toNat)
      case atStart => exact ⟨0, Nat.zero_le _, rfl, rfl, Lib.hid (Below.refl _ _)⟩
      case round =>
        obtain ⟨k2, hk2, rfl, rfl, hR⟩ := hrel
        by_cases hlt2 : k2 < ps.length
        · obtain ⟨b2, o2, he, hn2, m0, m1, m2⟩ := PcsRd.at_ ((PcsOwn.rd HO4.out).below hR.out) hlt2
          subst he
          have hcl : (ps.take k2).countP (·.second) ≤ 3 := Nat.le_trans List.countP_le_length (Nat.le_trans (by rw [List.length_take]; omega) Hps3.out)
          have Hts := Lib.hid (show (ps.take (k2 + 1)).countP (·.second) = (ps.take k2).countP (·.second) + (if ps[k2].second then 1 else 0) from by rw [take_snoc _ _ hlt2, List.countP_append]; simp [List.countP_cons])
          generalize (ps.take k2).countP (·.second) = cn at *
          generalize ps[k2]'hlt2 = pc at *
          obtain ⟨s, at1, ln⟩ := pc
          simp only at m0 m1 m2 Hts
          have HXr := Lib.hid (hR.out.alloc hR.out.size (.cells #[.bool s, .int .i64 at1, .int .i64 ln] 58))
          obtain ⟨z0, -⟩ := (Blk.new wr 58 #[.bool s, .int .i64 at1, .int .i64 ln]).c3
          cases s
          · clear hR
            go_wp2_with fail
            go_roundw
            case rel => exact ⟨k2 + 1, by omega, by go_num, by rw [Hts.out]; rfl, HXr⟩
            case measure => simp [intOf] <;> omega
          · clear hR
            go_wp2_with fail
            go_roundw
            case rel => exact ⟨k2 + 1, by omega, by go_num, by rw [Hts.out]; go_num, HXr⟩
            case measure => simp [intOf] <;> omega
        · obtain rfl : k2 = ps.length := by omega
          have Hc := Lib.hid (show (ps.take ps.length).countP (·.second) = min ty.length 1 from by rw [List.take_length]; exact Hpsc.out)
          have hmin : (if (1 : Int) < (ty.length : Int) then (1 : Int) else (ty.length : Int)) = ((min ty.length 1 : Nat) : Int) := by split <;> omega
          rw [Hc.out]
          have HXr := Lib.hid (HX4.out.trans (hR.out.mono HX4.out.size))
          have HT5 := Lib.hid (HR.out.1.below HXr.out)
          have hps2 : ps.length ≤ 3 := hps3
          clear hR Hc hlt2
          generalize (min ty.length 1 : Nat) = mn at *
          go_wp2_with fail
          have hp5 := (HR.out.2.1.pieces Hpl.out).1
          refine (pieces_all HT5.out HR.out.2.1.ok (by omega)).mono ?_
          rintro e w5 ⟨v5, rfl, ho5, hX5⟩
          obtain ⟨q5, d5, rfl⟩ := own_slice ho5
          have HX5 := Lib.hid (HXr.out.trans (hX5.mono HXr.out.size))
          have HT6 := Lib.hid (HT5.out.below hX5)
          clear ho5 hX5
          generalize t.ps.length = l5 at *
          go_wp2_with fail
          go_loopw [74] (fun i wr => ∃ (k : Nat) (t : Tb), k ≤ ty.length ∧ i = .int .i64 k ∧ Hid (TbAt wr (OwnS w.heap.size b) b t ∧ TypedTo tx pos (ty.length - k) t (tx.length + ty.length) ∧ Below w.heap.size w wr)) (fun i _ => ty.length - (intOf i).toNat)
          case atStart => exact ⟨0, t, Nat.zero_le _, rfl, Lib.hid ⟨HT6.out, HR.out.2.1, HR.out.2.2.2.trans (HX5.out.mono HR.out.2.2.2.size)⟩⟩
          case round =>
            obtain ⟨k, t, hk, rfl, hR⟩ := hrel
            by_cases hlt : k < ty.length
            · obtain ⟨pk, hpk⟩ : ∃ q, q = pos + (ty.length - (k + 1)) := ⟨_, rfl⟩
              obtain ⟨s1, hs1⟩ : ∃ q, q = pos + ty.length := ⟨_, rfl⟩
              obtain ⟨s2, hs2⟩ : ∃ q, q = pos + ty.length - 1 := ⟨_, rfl⟩
              have hpl := Hpl.out
              have hw1 : IntKind.i64.wrap ((pos : Int) + (ty.length : Int)) = (s1 : Int) := by rw [IntKind.wrap_i64]; omega
              have hw2 : IntKind.i64.wrap ((s1 : Int) - 1) = (s2 : Int) := by rw [IntKind.wrap_i64]; omega
              have hw3 : IntKind.i64.wrap ((s2 : Int) - (k : Int)) = (pk : Int) := by rw [IntKind.wrap_i64]; omega
              have hty := hR.out.2.1
              rw [show ty.length - k = ty.length - (k + 1) + 1 from by omega] at hty
              obtain ⟨h1, h2⟩ := hty.del hpl
              rw [← hpk] at h1 h2
              have Hin := Lib.hid (And.intro h1 h2)
              have Hokk := Lib.hid hR.out.2.1.ok
              have HTA := Lib.hid (And.intro hR.out.1 hR.out.2.2)
              clear h1 h2 hpk hs1 hs2 hty hpl hR
              go_wp2_with fail
              refine (del_all (N := tx.length + ty.length) (pos := (pk : Int)) (n := ((1 : Nat) : Int)) HTA.out.1 (fun h => h.2 rfl) Hokk.out (by omega) ?pb (by omega)).mono ?_
              case pb =>
                have := hw3
                rw [IntKind.wrap_i64] at this
                omega
              rintro e w6 ⟨rfl, htb6, hE6⟩
              rw [Hin.out.1]
              have HF := Lib.hid (OwnS.or htb6 HTA.out.2.size HTA.out.1.lt)
              have HXF := Lib.hid (Ext.from HTA.out.2 hE6 (fun j hj => by rw [hj]; exact HT.out.2))
              clear htb6 hE6
              go_wp2_with fail
              go_roundw
              case rel => exact ⟨k + 1, _, by omega, by go_num, Lib.hid ⟨HF.out, Hin.out.2, HXF.out⟩⟩
              case measure => simp [intOf] <;> omega
            · obtain rfl : k = ty.length := by omega
              have hty0 := hR.out.2.1
              rw [Nat.sub_self] at hty0
              have Htx := Lib.hid (hty0.text Hpl.out)
              have Hone := Lib.hid (hty0.one Hpl.out)
              have HR2 := Lib.hid (And.intro hR.out.1 hR.out.2.2)
              have Hok2 := Lib.hid hty0.ok
              have hmin2 : (if (1 : Int) < (tx.length : Int) then (1 : Int) else (tx.length : Int)) = ((min tx.length 1 : Nat) : Int) := by split <;> omega
              generalize (min tx.length 1 : Nat) = mx at *
              clear hR hty0
              go_wp2_with fail
              refine awake5.mono ?_
              rintro e w6 ⟨rfl, hX6⟩
              have HX6 := Lib.hid hX6
              clear hX6
              go_wp2_with fail
              refine (text_all (HR2.out.1.below HX6.out) Hok2.out (by omega)).mono ?_
              rintro e w7 ⟨v7, rfl, ho7, hX7⟩
              rw [Htx.out] at ho7
              have HO7 := Lib.hid ho7
              have HX7 := Lib.hid (HR2.out.2.trans ((HX6.out.trans (hX7.mono HX6.out.size)).mono HR2.out.2.size))
              have HT7 := Lib.hid ((HR2.out.1.below HX6.out).below hX7)
              clear ho7 hX7
              go_wp2_with fail
              refine (eq_chars (CharOwn.rd HO7.out) (Rd.below Hr0.out (by decide) HX7.out) (by omega)).mono ?_
              rintro e w8 ⟨rfl, hX8⟩
              have HX8 := Lib.hid (HX7.out.trans (hX8.mono HX7.out.size))
              have HT8 := Lib.hid (HT7.out.below hX8)
              clear hX8
              go_wp2_with fail
              refine (pieces_all HT8.out Hok2.out (by omega)).mono ?_
              rintro e w9 ⟨v9, rfl, ho9, hX9⟩
              obtain ⟨q9, d9, rfl⟩ := own_slice ho9
              have HX9 := Lib.hid (HX8.out.trans (hX9.mono HX8.out.size))
              rw [Hone.out]
              clear ho9 hX9
              go_wp2_with fail
              go_ret
              exact ⟨rfl, HX9.out⟩
end Go.Proofs.Ytelaiafpfaohfaa
