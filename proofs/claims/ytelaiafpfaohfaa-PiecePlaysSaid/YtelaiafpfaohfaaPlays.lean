/-
  PiecePlays' walk: it returns true. (Printed by wip/gen_plays.py.)
-/
import Derived.Test.YtelaiafpfaohfaaPlaysL
import Derived.Test.YtelaiafpfaohfaaAwake5
import Derived.Deep.DeepCutAuto
import Derived.Deep.CutBlock
namespace Go.Proofs.Ytelaiafpfaohfaa
open Go.RowKit
set_option linter.unusedSimpArgs false
set_option linter.unusedVariables false

theorem take_own {w : World} {p : Option Addr} {c m : Nat} {S : Nat → Prop} {l x : List Int} (h : CharRd w S (.slice p l.length c) l) (hx : l.take m = x) : CharRd w S (.slice p x.length c) x ∧ x.length ≤ m ∧ x.length ≤ l.length := by
  subst hx
  rw [List.length_take]
  refine ⟨?_, by omega, by omega⟩
  rcases Nat.le_total m l.length with hm | hm
  · have h1 := CharRd.front h hm
    rw [Nat.min_eq_left hm]
    exact h1
  · rw [Nat.min_eq_right hm, List.take_of_length_le hm]
    exact h

set_option maxHeartbeats 25600000 in
set_option maxRecDepth 100000 in
theorem plays_walk {w : World} {v v2 : Value} {text : List Int} {acts : List Actn} (ht : CharRd w (fun j => j < w.heap.size) v text) (htn : NilOk v) (ha : ActsRd w (fun j => j < w.heap.size) v2 acts) (hok : ActsOk acts) :
    Calls Try.prog 3 #[v, v2] w fun e w' => e = .returned (.bool true) ∧ Below w.heap.size w w' := by
  obtain ⟨p, c, rfl⟩ := Rd.slice ht
  obtain ⟨p2, c2, rfl⟩ : ∃ p c, v2 = .slice p acts.length c := by obtain ⟨_, hr, _⟩ := ha; exact Rd.slice hr
  have hlc : text.length ≤ c := by obtain ⟨_, _, _, h, h1, _⟩ := ht; injection h with _ _ h; omega
  have hlc2 : c ≤ maxLen := by obtain ⟨_, _, _, h, _, h1, _⟩ := ht; injection h with _ _ h; omega
  have hla : acts.length ≤ maxLen := by obtain ⟨_, hr, _⟩ := ha; exact Rd.le hr
  unfold maxLen at hlc2 hla
  obtain ⟨tx, htx⟩ : ∃ x, text.take 300 = x := ⟨_, rfl⟩
  obtain ⟨hr0, hx300, hxl⟩ := take_own ht htx
  have hm : (if (300 : Int) < (text.length : Int) then (300 : Int) else (text.length : Int)) = (tx.length : Int) := by rw [← htx, List.length_take]; split <;> omega
  have hxc : (tx.length : Int) ≤ (c : Int) := by omega
  have H := Lib.hid hr0
  have Hn := Lib.hid (NilOk.front (k := tx.length) htn)
  have Ha := Lib.hid ha
  have Hok := Lib.hid hok
  clear htx hr0 ht htn ha hok
  go_enter Try.func3, Try.ntmps3
  go_wp2_with fail
  refine (ref_Own H.out Hn.out (by omega)).mono ?_
  rintro e w1 ⟨v1, rfl, ho1, hX1⟩
  obtain ⟨q1, d1, rfl⟩ := own_slice ho1
  have HO1 := Lib.hid ho1
  have HX1 := Lib.hid hX1
  clear ho1 hX1 hm
  go_wp2_with fail
  refine (new_all HO1.out.rd (by omega)).mono ?_
  rintro e w2 ⟨b, rfl, hb, htb, hX2⟩
  have HX2 := Lib.hid hX2
  have HT := Lib.hid (And.intro hb htb)
  clear hb htb hX2
  go_wp2_with fail
  refine (rf_new (Rd.below (Rd.below H.out (by decide) HX1.out) (by decide) HX2.out) (by omega)).mono ?_
  rintro e w3 ⟨rb, rfl, hrb, hrf, hX3⟩
  have HX3 := Lib.hid hX3
  have HR := Lib.hid (And.intro hrb hrf)
  have HS := Lib.hid (show SpC w3 w.heap.size q1 tx.length d1 from ⟨tx, own_below (own_below HO1.out HX2.out) HX3.out⟩)
  have Hlt := Lib.hid (fun g (hg : q1 = some ⟨g, 0, none⟩) => HO1.out.lt g (by rw [hg]; rfl))
  clear hrb hrf hX3
  have HTok := Lib.hid (show (Tb.new tx).Ok 300 from (Tb.new_ok tx).mono hx300)
  generalize tx.length = nx at *
  go_wp2_with fail
  go_loopw [32] (fun i wr => ∃ k : Nat, k ≤ nx ∧ i = .int .i64 k ∧ Hid (SpC wr w.heap.size q1 nx d1 ∧ Ext (fun j => w.heap.size ≤ j ∧ j < w1.heap.size) w3 wr)) (fun i _ => nx - (intOf i).toNat)
  case atStart => exact ⟨0, Nat.zero_le _, rfl, Lib.hid ⟨HS.out, Ext.refl _ _⟩⟩
  case round =>
    obtain ⟨k, hk, rfl, hR⟩ := hrel
    by_cases hlt : k < nx
    · obtain ⟨g, rfl⟩ := SpC.form hR.out.1 (by omega)
      obtain ⟨⟨x, hc0⟩, hf0, hg1, hg2, hnc⟩ := SpC.cell hR.out.1 hlt
      obtain ⟨y, hy⟩ : ∃ y, IntKind.i32.wrap (x + 1) = y := ⟨_, rfl⟩
      have HR1 := Lib.hid (hR.out.1.stored (j := k) y)
      have HE1 := Lib.hid (hR.out.2.setCell (p := ⟨g, k, none⟩) (.inl (Hlt.out g rfl)) (.int .i32 y))
      clear hR
      go_wp2_with fail
      go_roundw
      case rel => exact ⟨k + 1, by omega, by go_num, Lib.hid ⟨HR1.out, HE1.out⟩⟩
      case measure => simp [intOf] <;> omega
    · obtain rfl : k = nx := by omega
      obtain ⟨-, hE⟩ := hR.out
      have hSt := St.new HX1.out HT.out.1 HT.out.2 HX2.out HR.out.1 HR.out.2 HX3.out hE (fun j hj => hj) HTok.out
      have hbw : Below w.heap.size w wr := Ext.from ((HX1.out.trans (HX2.out.mono HX1.out.size)).trans (HX3.out.mono (Nat.le_trans HX1.out.size HX2.out.size))) hE (fun j hj => hj.1)
      have HSt := Lib.hid (And.intro hSt hbw)
      clear hSt hbw hE hR hlt hk HS HR HX3 HT HX2 HX1 HO1 Hlt H Hn
      go_wp2_with fail
      go_loopw [6, 7, 44] (fun tv rv i wr => ∃ (k b rb : Nat) (t : Tb), k ≤ acts.length ∧ k ≤ 60 ∧ tv = .pointer (some ⟨b, 0, none⟩) ∧ rv = .pointer (some ⟨rb, 0, none⟩) ∧ i = .int .i64 k ∧ Hid (St w.heap.size wr b rb t (300 + 100 * k) ∧ Below w.heap.size w wr)) (fun _ _ i _ => acts.length - (intOf i).toNat)
      case atStart => exact ⟨0, b, rb, Tb.new tx, Nat.zero_le _, Nat.zero_le _, rfl, rfl, rfl, HSt⟩
      case round =>
        obtain ⟨k, b, rb, t, hk, hk60, rfl, rfl, rfl, hR⟩ := hrel
        by_cases hlt : k < acts.length
        · obtain ⟨bk, off, qa, da, he, e0, e1, e2, e3, hq, hnil, hbd, hbd2, hac⟩ := ActsRd.at_ (Ha.out.below hR.out.2) hlt
          subst he
          unfold maxLen at hbd2
          have hint := Hok.out acts[k] (List.getElem_mem hlt)
          generalize acts[k]'hlt = ac at *
          obtain ⟨what, pos, n, l⟩ := ac
          simp only at e0 e1 e2 e3 hq hnil hbd hint
          by_cases h60 : k = 60
          · subst h60
            have hbA := (Below.refl wr.heap.size wr).alloc (Nat.le_refl _) (.cells #[.int .i64 what, .int .i64 pos, .int .i64 n, .slice qa l.length da] 31)
            have HXA := Lib.hid (hR.out.2.trans (hbA.mono hR.out.2.size))
            clear hR hq hnil hint hbA
            go_wp2_with fail
            refine awake5.mono ?_
            rintro e w4 ⟨rfl, hX⟩
            have HX := Lib.hid (HXA.out.trans (hX.mono HXA.out.size))
            clear hX
            go_wp2_with fail
            go_ret
            exact ⟨rfl, HX.out⟩
          · obtain ⟨x, hx⟩ : ∃ x, l.take 100 = x := ⟨_, rfl⟩
            obtain ⟨hrx, hx100, hxl⟩ := take_own hq hx
            have hm : (if (100 : Int) < (l.length : Int) then (100 : Int) else (l.length : Int)) = (x.length : Int) := by rw [← hx, List.length_take]; split <;> omega
            have hxd : (x.length : Int) ≤ (da : Int) := by omega
            have HNx := Lib.hid (NilOk.front (k := x.length) hnil)
            have hbA := (Below.refl wr.heap.size wr).alloc (Nat.le_refl _) (.cells #[.int .i64 what, .int .i64 pos, .int .i64 n, .slice qa x.length da] 31)
            have HSt := Lib.hid (hR.out.1.below hbA)
            have HXB := Lib.hid (hR.out.2.trans (hbA.mono hR.out.2.size))
            have HXq := Lib.hid (hrx.below hbA)
            have HAB := Lib.hid (Blk.new wr 31 #[.int .i64 what, .int .i64 pos, .int .i64 n, .slice qa x.length da])
            have HAne := Lib.hid (show wr.heap.size ≠ b ∧ wr.heap.size ≠ rb ∧ w.heap.size ≤ wr.heap.size from ⟨fun e => by have := hR.out.1.tb.lt; omega, fun e => by have := hR.out.1.rf.lt; omega, hR.out.2.size⟩)
            obtain ⟨c0, c1, c2', c3, -⟩ := HAB.out.c4
            have Hint := Lib.hid hint
            have hk6 : k < 60 := by omega
            clear hR hq hnil hrx hbA hint hx h60
            go_upto_block 4 with fail
            generalize hWg : wr.alloc (.cells #[.int .i64 what, .int .i64 pos, .int .i64 n, .slice qa x.length da] 31) = W at *
            clear hWg hm
            generalize hAg : wr.heap.size = A at *
            clear hAg
            go_cut [6, 7] (fun tv rv wx => ∃ (b rb : Nat) (t : Tb), tv = .pointer (some ⟨b, 0, none⟩) ∧ rv = .pointer (some ⟨rb, 0, none⟩) ∧ Hid (St w.heap.size wx b rb t (300 + 100 * (k + 1)) ∧ Below w.heap.size w wx))
            case first =>
              by_cases hw0 : what = 0
              · subst hw0
                go_wp2_with fail
                refine (ref_Own HXq.out HNx.out (by omega)).mono ?_
                rintro e w4 ⟨v4, rfl, ho4, hX4⟩
                obtain ⟨q4, d4, rfl⟩ := own_slice ho4
                have HO4 := Lib.hid ho4
                have HX4 := Lib.hid hX4
                have hA4 : Blk w4 A _ _ := HAB.out.below hX4
                have a1 : w4.cell? ⟨A, 1, none⟩ = some (.int .i64 pos) := hA4.cell 1
                have a3 : w4.cell? ⟨A, 3, none⟩ = some (.slice qa x.length da) := hA4.cell 3
                have hAlt := hA4.lt
                clear ho4 hX4 hA4
                go_wp2_with fail
                have hS : Hold2 (A, 1, .int .i64 pos) (A, 3, .slice qa x.length da) w4.drew := ⟨a1, a3⟩
                refine begin_D (T := Hold0) [] (by kernel_rfl) hS (fun _ => trivial) ?_
                refine take_S (v := ?v0a) 0 rfl (by kernel_rfl) (by kernel_rfl) (by kernel_rfl) (by kernel_rfl) (fun _ _ _ h => h) hS (fun _ => trivial) rfl (fun w' hq => ?h0a) ?_
                case h0a => obtain ⟨hq0, hq1⟩ := hq; change _ = some _ at hq0; change _ = some _ at hq1; go_simp; try with_reducible rfl
                try simp only [Act.put, List.setIfInBounds_toArray, List.set_cons_zero, List.set_cons_succ, List.getElem_toArray, List.getElem_cons_succ, List.getElem_cons_zero]
                refine take_S (v := ?v1a) 1 rfl (by kernel_rfl) (by kernel_rfl) (by kernel_rfl) (by kernel_rfl) (fun _ _ _ h => h) hS (fun _ => trivial) rfl (fun w' hq => ?h1a) ?_
                case h1a => obtain ⟨hq0, hq1⟩ := hq; change _ = some _ at hq0; change _ = some _ at hq1; go_simp; try with_reducible rfl
                try simp only [Act.put, List.setIfInBounds_toArray, List.set_cons_zero, List.set_cons_succ, List.getElem_toArray, List.getElem_cons_succ, List.getElem_cons_zero]
                refine take_S (v := ?v2a) 2 rfl (by kernel_rfl) (by kernel_rfl) (by kernel_rfl) (by kernel_rfl) (fun _ _ _ h => h) hS (fun _ => trivial) rfl (fun w' hq => ?h2a) ?_
                case h2a => obtain ⟨hq0, hq1⟩ := hq; change _ = some _ at hq0; change _ = some _ at hq1; go_simp; try with_reducible rfl
                try simp only [Act.put, List.setIfInBounds_toArray, List.set_cons_zero, List.set_cons_succ, List.getElem_toArray, List.getElem_cons_succ, List.getElem_cons_zero]
                refine take_S (v := ?v3a) 3 rfl (by kernel_rfl) (by kernel_rfl) (by kernel_rfl) (by kernel_rfl) (fun _ _ _ h => h) hS (fun _ => trivial) rfl (fun w' hq => ?h3a) ?_
                case h3a => obtain ⟨hq0, hq1⟩ := hq; change _ = some _ at hq0; change _ = some _ at hq1; go_simp; try with_reducible rfl
                try simp only [Act.put, List.setIfInBounds_toArray, List.set_cons_zero, List.set_cons_succ, List.getElem_toArray, List.getElem_cons_succ, List.getElem_cons_zero]
                refine take_S (v := ?v5a) 5 rfl (by kernel_rfl) (by kernel_rfl) (by kernel_rfl) (by kernel_rfl) (fun _ _ _ h => h) hS (fun _ => trivial) rfl (fun w' hq => ?h5a) ?_
                case h5a => obtain ⟨hq0, hq1⟩ := hq; change _ = some _ at hq0; change _ = some _ at hq1; go_simp; try with_reducible rfl
                try simp only [Act.put, List.setIfInBounds_toArray, List.set_cons_zero, List.set_cons_succ, List.getElem_toArray, List.getElem_cons_succ, List.getElem_cons_zero]
                refine take_S (v := ?v6a) 6 rfl (by kernel_rfl) (by kernel_rfl) (by kernel_rfl) (by kernel_rfl) (fun _ _ _ h => h) hS (fun _ => trivial) rfl (fun w' hq => ?h6a) ?_
                case h6a => obtain ⟨hq0, hq1⟩ := hq; change _ = some _ at hq0; change _ = some _ at hq1; go_simp; try with_reducible rfl
                try simp only [Act.put, List.setIfInBounds_toArray, List.set_cons_zero, List.set_cons_succ, List.getElem_toArray, List.getElem_cons_succ, List.getElem_cons_zero]
                refine take_S (v := ?v7a) 7 rfl (by kernel_rfl) (by kernel_rfl) (by kernel_rfl) (by kernel_rfl) (fun _ _ _ h => h) hS (fun _ => trivial) rfl (fun w' hq => ?h7a) ?_
                case h7a => obtain ⟨hq0, hq1⟩ := hq; change _ = some _ at hq0; change _ = some _ at hq1; go_simp; try with_reducible rfl
                try simp only [Act.put, List.setIfInBounds_toArray, List.set_cons_zero, List.set_cons_succ, List.getElem_toArray, List.getElem_cons_succ, List.getElem_cons_zero]
                refine take_S (v := ?v8a) 8 rfl (by kernel_rfl) (by kernel_rfl) (by kernel_rfl) (by kernel_rfl) (fun _ _ _ h => h) hS (fun _ => trivial) rfl (fun w' hq => ?h8a) ?_
                case h8a => obtain ⟨hq0, hq1⟩ := hq; change _ = some _ at hq0; change _ = some _ at hq1; go_simp; try with_reducible rfl
                try simp only [Act.put, List.setIfInBounds_toArray, List.set_cons_zero, List.set_cons_succ, List.getElem_toArray, List.getElem_cons_succ, List.getElem_cons_zero]
                refine take_S (v := ?v9a) 9 rfl (by kernel_rfl) (by kernel_rfl) (by kernel_rfl) (by kernel_rfl) (fun _ _ _ h => h) hS (fun _ => trivial) rfl (fun w' hq => ?h9a) ?_
                case h9a => obtain ⟨hq0, hq1⟩ := hq; change _ = some _ at hq0; change _ = some _ at hq1; go_simp; try with_reducible rfl
                try simp only [Act.put, List.setIfInBounds_toArray, List.set_cons_zero, List.set_cons_succ, List.getElem_toArray, List.getElem_cons_succ, List.getElem_cons_zero]
                refine one_D 4 rfl (by kernel_rfl) (fun KQ hK => ?_)
                go_simp
                refine (ins_all (T := SO w.heap.size b rb W.heap.size) (N := 300 + 100 * k) (show TbAt w4.drew _ b t from HSt.out.tbo.below HX4.out.drew) (SO.nb _ _ _ _) HSt.out.ok (by omega) (show CharRd w4.drew _ _ x from HO4.out.rd) (NilOk.own HO4.out) (by omega)).mono ?_
                rintro e w5 ⟨rfl, htb5, hE5⟩
                have HT5 := Lib.hid htb5
                have hE5' := hE5
                have HE5 := Lib.hid (show Ext (fun j => j = b) w4 w5 from (Ext.of_below _ (Below.refl w4.heap.size w4).drew).trans hE5)
                have hS5 : Hold2 (A, 1, .int .i64 pos) (A, 3, .slice qa x.length da) w5 := ⟨(cell_keep (HE5.out.block A hAlt HAne.out.1)).trans a1, (cell_keep (HE5.out.block A hAlt HAne.out.1)).trans a3⟩
                refine hK.out _ _ hS5 (fun _ => trivial) ?_
                clear hK htb5 hE5 hS
                refine one_D 10 rfl (by kernel_rfl) (fun KQ hK => ?_)
                go_simp
                have hrf5 := (HSt.out.rfo.below HX4.out).ext HE5.out (fun j hj he => SO.nb _ _ _ _ (he ▸ hj)) (fun e => HSt.out.ne e.symm)
                have hxq5 : CharRd w5 (fun j => j < w.heap.size) (.slice qa x.length da) x := Rd.ext (HXq.out.below HX4.out) HE5.out (fun j hj he => by have := HSt.out.hb; omega) (by decide)
                refine (rf_ins (pos := pos) hrf5 (SO.nrb _ _ _ _) hxq5 (fun h => by have := HSt.out.hrb; omega) (by rw [Rf.len_of HSt.out.ok]; have := HSt.out.ok.n; omega) (by omega) (by have := HSt.out.ok.s; show t.s.length ≤ _; omega)).mono ?_
                rintro e w6 ⟨rfl, hrf6, hE6⟩
                rw [Rf.ins_of HSt.out.ok] at hrf6 ⊢
                have HR6 := Lib.hid hrf6
                have HE6 := Lib.hid hE6
                have hAlt5 := Nat.lt_of_lt_of_le hAlt HE5.out.size
                have hS6 : Hold2 (A, 1, .int .i64 pos) (A, 3, .slice qa x.length da) w6 := ⟨(cell_keep (HE6.out.block A hAlt5 HAne.out.2.1)).trans hS5.1, (cell_keep (HE6.out.block A hAlt5 HAne.out.2.1)).trans hS5.2⟩
                refine hK.out _ _ hS6 (fun _ => trivial) ?_
                clear hK hrf6 hE6 hrf5 hxq5
                refine take_S (v := (.bool false)) 11 rfl (by kernel_rfl) (by kernel_rfl) (by kernel_rfl) (by kernel_rfl) (fun _ _ _ h => h) hS6 (fun _ => trivial) rfl (fun w' hq => ?h11b) ?_
                case h11b => obtain ⟨hq0, hq1⟩ := hq; change _ = some _ at hq0; change _ = some _ at hq1; go_simp; first | rfl | (simp; done) | skip
                try simp only [Act.put, List.setIfInBounds_toArray, List.set_cons_zero, List.set_cons_succ, List.getElem_toArray, List.getElem_cons_succ, List.getElem_cons_zero]
                refine done_D (by kernel_rfl) ?_ _
                have HSp := Lib.hid (show SpC w6 W.heap.size q4 x.length d4 from ⟨x, by
                  have h5 : w5.ownsRow W.heap.size 29 1 (.slice q4 x.length d4) x.length (ccells x) := own_keep HO4.out fun j hj hl _ => HE5.out.block j hl (fun e => by have := HSt.out.tb.lt; omega)
                  exact own_keep h5 fun j hj hl _ => HE6.out.block j hl (fun e => by have := HSt.out.rf.lt; omega)⟩)
                have Hlt4 := Lib.hid (fun g (hg : q4 = some ⟨g, 0, none⟩) => HO4.out.lt g (by rw [hg]; rfl))
                clear hS5 hS6 a1 a3
                go_wp2_with fail
                go_loopw [80] (fun i wr => ∃ k2 : Nat, k2 ≤ x.length ∧ i = .int .i64 k2 ∧ Hid (SpC wr W.heap.size q4 x.length d4 ∧ Ext (fun j => W.heap.size ≤ j ∧ j < w4.heap.size) w6 wr)) (fun i _ => x.length - (intOf i).toNat)
                case atStart => exact ⟨0, Nat.zero_le _, rfl, Lib.hid ⟨HSp.out, Ext.refl _ _⟩⟩
                case round =>
                  obtain ⟨k2, hk2, rfl, hR⟩ := hrel
                  by_cases hlt2 : k2 < x.length
                  · obtain ⟨g, rfl⟩ := SpC.form hR.out.1 (by omega)
                    obtain ⟨⟨z, hc0⟩, hf0, hg1, hg2, hnc⟩ := SpC.cell hR.out.1 hlt2
                    obtain ⟨y, hy⟩ : ∃ y, IntKind.i32.wrap (z + 1) = y := ⟨_, rfl⟩
                    have HR1 := Lib.hid (hR.out.1.stored (j := k2) y)
                    have HE1 := Lib.hid (hR.out.2.setCell (p := ⟨g, k2, none⟩) (.inl (Hlt4.out g rfl)) (.int .i32 y))
                    clear hR
                    go_wp2_with fail
                    go_roundw
                    case rel => exact ⟨k2 + 1, by omega, by go_num, Lib.hid ⟨HR1.out, HE1.out⟩⟩
                    case measure => simp [intOf] <;> omega
                  · obtain rfl : k2 = x.length := by omega
                    have HE := Lib.hid hR.out.2
                    clear hR
                    go_wp2_with fail
                    go_meet
                    case rel => exact ⟨b, rb, (t.ins pos x).2, rfl, rfl, Lib.hid ⟨HSt.out.does HX4.out.drew HT5.out hE5' HR6.out HE6.out HE.out (fun j hj => hj) ((Tb.ins_ok HSt.out.ok pos x).mono (by omega)), Ext.from (Ext.from (Ext.from (HXB.out.trans (HX4.out.mono HXB.out.size)) HE5.out (fun j hj => by rw [hj]; exact HSt.out.hb)) HE6.out (fun j hj => by rw [hj]; exact HSt.out.hrb)) HE.out (fun j hj => Nat.le_trans HSt.out.n0 hj.1)⟩⟩
              · have hb0 : (what == (0 : Int)) = false := by simpa using hw0
                by_cases hw1 : what = 1
                · subst hw1
                  clear hb0 hw0
                  have a1 : W.cell? ⟨A, 1, none⟩ = some (.int .i64 pos) := HAB.out.cell 1
                  have a2 : W.cell? ⟨A, 2, none⟩ = some (.int .i64 n) := HAB.out.cell 2
                  have hAlt := HAB.out.lt
                  go_wp2_with fail
                  have hS : Hold2 (A, 1, .int .i64 pos) (A, 2, .int .i64 n) W.drew := ⟨a1, a2⟩
                  refine begin_D (T := Hold0) [] (by kernel_rfl) hS (fun _ => trivial) ?_
                  refine take_S (v := ?v0c) 0 rfl (by kernel_rfl) (by kernel_rfl) (by kernel_rfl) (by kernel_rfl) (fun _ _ _ h => h) hS (fun _ => trivial) rfl (fun w' hq => ?h0c) ?_
                  case h0c => obtain ⟨hq0, hq1⟩ := hq; change _ = some _ at hq0; change _ = some _ at hq1; go_simp; try with_reducible rfl
                  try simp only [Act.put, List.setIfInBounds_toArray, List.set_cons_zero, List.set_cons_succ, List.getElem_toArray, List.getElem_cons_succ, List.getElem_cons_zero]
                  refine take_S (v := ?v1c) 1 rfl (by kernel_rfl) (by kernel_rfl) (by kernel_rfl) (by kernel_rfl) (fun _ _ _ h => h) hS (fun _ => trivial) rfl (fun w' hq => ?h1c) ?_
                  case h1c => obtain ⟨hq0, hq1⟩ := hq; change _ = some _ at hq0; change _ = some _ at hq1; go_simp; try with_reducible rfl
                  try simp only [Act.put, List.setIfInBounds_toArray, List.set_cons_zero, List.set_cons_succ, List.getElem_toArray, List.getElem_cons_succ, List.getElem_cons_zero]
                  refine take_S (v := ?v2c) 2 rfl (by kernel_rfl) (by kernel_rfl) (by kernel_rfl) (by kernel_rfl) (fun _ _ _ h => h) hS (fun _ => trivial) rfl (fun w' hq => ?h2c) ?_
                  case h2c => obtain ⟨hq0, hq1⟩ := hq; change _ = some _ at hq0; change _ = some _ at hq1; go_simp; try with_reducible rfl
                  try simp only [Act.put, List.setIfInBounds_toArray, List.set_cons_zero, List.set_cons_succ, List.getElem_toArray, List.getElem_cons_succ, List.getElem_cons_zero]
                  refine take_S (v := ?v3c) 3 rfl (by kernel_rfl) (by kernel_rfl) (by kernel_rfl) (by kernel_rfl) (fun _ _ _ h => h) hS (fun _ => trivial) rfl (fun w' hq => ?h3c) ?_
                  case h3c => obtain ⟨hq0, hq1⟩ := hq; change _ = some _ at hq0; change _ = some _ at hq1; go_simp; try with_reducible rfl
                  try simp only [Act.put, List.setIfInBounds_toArray, List.set_cons_zero, List.set_cons_succ, List.getElem_toArray, List.getElem_cons_succ, List.getElem_cons_zero]
                  refine take_S (v := ?v4c) 4 rfl (by kernel_rfl) (by kernel_rfl) (by kernel_rfl) (by kernel_rfl) (fun _ _ _ h => h) hS (fun _ => trivial) rfl (fun w' hq => ?h4c) ?_
                  case h4c => obtain ⟨hq0, hq1⟩ := hq; change _ = some _ at hq0; change _ = some _ at hq1; go_simp; try with_reducible rfl
                  try simp only [Act.put, List.setIfInBounds_toArray, List.set_cons_zero, List.set_cons_succ, List.getElem_toArray, List.getElem_cons_succ, List.getElem_cons_zero]
                  refine take_S (v := ?v6c) 6 rfl (by kernel_rfl) (by kernel_rfl) (by kernel_rfl) (by kernel_rfl) (fun _ _ _ h => h) hS (fun _ => trivial) rfl (fun w' hq => ?h6c) ?_
                  case h6c => obtain ⟨hq0, hq1⟩ := hq; change _ = some _ at hq0; change _ = some _ at hq1; go_simp; try with_reducible rfl
                  try simp only [Act.put, List.setIfInBounds_toArray, List.set_cons_zero, List.set_cons_succ, List.getElem_toArray, List.getElem_cons_succ, List.getElem_cons_zero]
                  refine take_S (v := ?v7c) 7 rfl (by kernel_rfl) (by kernel_rfl) (by kernel_rfl) (by kernel_rfl) (fun _ _ _ h => h) hS (fun _ => trivial) rfl (fun w' hq => ?h7c) ?_
                  case h7c => obtain ⟨hq0, hq1⟩ := hq; change _ = some _ at hq0; change _ = some _ at hq1; go_simp; try with_reducible rfl
                  try simp only [Act.put, List.setIfInBounds_toArray, List.set_cons_zero, List.set_cons_succ, List.getElem_toArray, List.getElem_cons_succ, List.getElem_cons_zero]
                  refine take_S (v := ?v8c) 8 rfl (by kernel_rfl) (by kernel_rfl) (by kernel_rfl) (by kernel_rfl) (fun _ _ _ h => h) hS (fun _ => trivial) rfl (fun w' hq => ?h8c) ?_
                  case h8c => obtain ⟨hq0, hq1⟩ := hq; change _ = some _ at hq0; change _ = some _ at hq1; go_simp; try with_reducible rfl
                  try simp only [Act.put, List.setIfInBounds_toArray, List.set_cons_zero, List.set_cons_succ, List.getElem_toArray, List.getElem_cons_succ, List.getElem_cons_zero]
                  refine take_S (v := ?v9c) 9 rfl (by kernel_rfl) (by kernel_rfl) (by kernel_rfl) (by kernel_rfl) (fun _ _ _ h => h) hS (fun _ => trivial) rfl (fun w' hq => ?h9c) ?_
                  case h9c => obtain ⟨hq0, hq1⟩ := hq; change _ = some _ at hq0; change _ = some _ at hq1; go_simp; try with_reducible rfl
                  try simp only [Act.put, List.setIfInBounds_toArray, List.set_cons_zero, List.set_cons_succ, List.getElem_toArray, List.getElem_cons_succ, List.getElem_cons_zero]
                  refine take_S (v := ?v10c) 10 rfl (by kernel_rfl) (by kernel_rfl) (by kernel_rfl) (by kernel_rfl) (fun _ _ _ h => h) hS (fun _ => trivial) rfl (fun w' hq => ?h10c) ?_
                  case h10c => obtain ⟨hq0, hq1⟩ := hq; change _ = some _ at hq0; change _ = some _ at hq1; go_simp; try with_reducible rfl
                  try simp only [Act.put, List.setIfInBounds_toArray, List.set_cons_zero, List.set_cons_succ, List.getElem_toArray, List.getElem_cons_succ, List.getElem_cons_zero]
                  refine one_D 5 rfl (by kernel_rfl) (fun KQ hK => ?_)
                  go_simp
                  refine (del_all (T := SO w.heap.size b rb W.heap.size) (N := 300 + 100 * k) (show TbAt W.drew _ b t from HSt.out.tbo) (SO.nb _ _ _ _) HSt.out.ok (by omega) Hint.out.1 Hint.out.2).mono ?_
                  rintro e w5 ⟨rfl, htb5, hE5⟩
                  have HT5 := Lib.hid htb5
                  have HE5 := Lib.hid (show Ext (fun j => j = b) W w5 from (Ext.of_below _ (Below.refl W.heap.size W).drew).trans hE5)
                  have HE5' := Lib.hid hE5
                  have hS5 : Hold2 (A, 1, .int .i64 pos) (A, 2, .int .i64 n) w5 := ⟨(cell_keep (HE5.out.block A hAlt HAne.out.1)).trans a1, (cell_keep (HE5.out.block A hAlt HAne.out.1)).trans a2⟩
                  refine hK.out _ _ hS5 (fun _ => trivial) ?_
                  clear hK htb5 hE5 hS
                  refine one_D 11 rfl (by kernel_rfl) (fun KQ hK => ?_)
                  go_simp
                  have hrf5 := HSt.out.rfo.ext HE5.out (fun j hj he => SO.nb _ _ _ _ (he ▸ hj)) (fun e => HSt.out.ne e.symm)
                  refine (rf_del (pos := pos) (n := n) hrf5 (SO.nrb _ _ _ _) (by rw [Rf.len_of HSt.out.ok]; have := HSt.out.ok.n; omega) Hint.out.1 Hint.out.2).mono ?_
                  rintro e w6 ⟨rfl, hrf6, hE6⟩
                  rw [Rf.del_of HSt.out.ok] at hrf6 ⊢
                  have HR6 := Lib.hid hrf6
                  have HE6 := Lib.hid hE6
                  have hAlt5 := Nat.lt_of_lt_of_le hAlt HE5.out.size
                  have hS6 : Hold2 (A, 1, .int .i64 pos) (A, 2, .int .i64 n) w6 := ⟨(cell_keep (HE6.out.block A hAlt5 HAne.out.2.1)).trans hS5.1, (cell_keep (HE6.out.block A hAlt5 HAne.out.2.1)).trans hS5.2⟩
                  refine hK.out _ _ hS6 (fun _ => trivial) ?_
                  clear hK hrf6 hE6 hrf5
                  refine take_S (v := (.bool false)) 12 rfl (by kernel_rfl) (by kernel_rfl) (by kernel_rfl) (by kernel_rfl) (fun _ _ _ h => h) hS6 (fun _ => trivial) rfl (fun w' hq => ?h12d) ?_
                  case h12d => obtain ⟨hq0, hq1⟩ := hq; change _ = some _ at hq0; change _ = some _ at hq1; go_simp; first | rfl | (simp; done) | skip
                  try simp only [Act.put, List.setIfInBounds_toArray, List.set_cons_zero, List.set_cons_succ, List.getElem_toArray, List.getElem_cons_succ, List.getElem_cons_zero]
                  refine done_D (by kernel_rfl) ?_ _
                  clear hS5 hS6 a1 a2
                  go_wp2_with fail
                  go_meet
                  case rel => exact ⟨b, rb, (t.del pos n).2, rfl, rfl, Lib.hid ⟨HSt.out.does (Below.refl W.heap.size W).drew HT5.out HE5'.out HR6.out HE6.out (Ext.refl (fun _ => False) _) (fun j hj => hj.elim) ((Tb.del_ok HSt.out.ok pos n).mono (by omega)), Ext.from (Ext.from HXB.out HE5.out (fun j hj => by rw [hj]; exact HSt.out.hb)) HE6.out (fun j hj => by rw [hj]; exact HSt.out.hrb)⟩⟩
                · have hb1 : (what == (1 : Int)) = false := by simpa using hw1
                  by_cases hw2 : what = 2
                  · subst hw2
                    clear hb0 hw0 hb1 hw1
                    go_wp2_with fail
                    have hrl := Tb.read_len HSt.out.ok pos n
                    have hrd := read_all (pos := pos) (n := n) HSt.out.tb HSt.out.ok (by omega) Hint.out.1 Hint.out.2
                    have hrr : ∀ w4, Below W.heap.size W w4 → Calls Try.prog 17 #[.pointer (some ⟨rb, 0, none⟩), .int .i64 pos, .int .i64 n] w4 (TbRead w4 (t.read pos n)) := fun w4 hX => by
                      have h := rf_read (pos := pos) (n := n) (HSt.out.rf.below hX) (by rw [Rf.len_of HSt.out.ok]; have := HSt.out.ok.n; omega) Hint.out.1 Hint.out.2
                      rw [Rf.read_of HSt.out.ok] at h
                      exact h
                    generalize t.read pos n = rr at *
                    obtain ⟨rl, re⟩ := rr
                    have Hrr := Lib.hid hrr
                    have Hrd := Lib.hid hrd
                    clear hrr hrd
                    go_wp2_with fail
                    refine Hrd.out.mono ?_
                    rintro e w4 ⟨v4, rfl, ho4, hX4⟩
                    obtain ⟨q4, d4, rfl⟩ := own_slice ho4
                    have HO4 := Lib.hid ho4
                    have HX4 := Lib.hid hX4
                    obtain ⟨_, g1, g2, _, -⟩ := (HAB.out.below hX4).c4
                    clear ho4 hX4
                    have hrl : rl.length ≤ 300 + 100 * k := hrl
                    go_wp2_with fail
                    refine (Hrr.out w4 HX4.out).mono ?_
                    rintro e w5 ⟨v5, rfl, ho5, hX5⟩
                    obtain ⟨q5, d5, rfl⟩ := own_slice ho5
                    have HO5 := Lib.hid ho5
                    have HX5 := Lib.hid hX5
                    clear ho5 hX5
                    go_wp2_with fail
                    refine (same5 (CharRd.below HO4.out.rd HX5.out) HO5.out.rd (by omega) (by omega)).mono ?_
                    rintro e w6 ⟨rfl, hX6⟩
                    rw [decide_eq_true rfl]
                    have HX6 := Lib.hid (HX4.out.trans ((HX5.out.trans (hX6.mono HX5.out.size)).mono HX4.out.size))
                    have HSp := Lib.hid (show SpC w6 W.heap.size q4 rl.length d4 from ⟨rl, own_below (own_below HO4.out HX5.out) hX6⟩)
                    have Hlt4 := Lib.hid (fun g (hg : q4 = some ⟨g, 0, none⟩) => HO4.out.lt g (by rw [hg]; rfl))
                    clear hX6
                    go_wp2_with fail
                    go_loopw [136] (fun i wr => ∃ k2 : Nat, k2 ≤ rl.length ∧ i = .int .i64 k2 ∧ Hid (SpC wr W.heap.size q4 rl.length d4 ∧ Ext (fun j => W.heap.size ≤ j ∧ j < w4.heap.size) w6 wr)) (fun i _ => rl.length - (intOf i).toNat)
                    case atStart => exact ⟨0, Nat.zero_le _, rfl, Lib.hid ⟨HSp.out, Ext.refl _ _⟩⟩
                    case round =>
                      obtain ⟨k2, hk2, rfl, hR⟩ := hrel
                      by_cases hlt2 : k2 < rl.length
                      · obtain ⟨g, rfl⟩ := SpC.form hR.out.1 (by omega)
                        obtain ⟨⟨z, hc0⟩, hf0, hg1, hg2, hnc⟩ := SpC.cell hR.out.1 hlt2
                        obtain ⟨y, hy⟩ : ∃ y, IntKind.i32.wrap (z + 1) = y := ⟨_, rfl⟩
                        have HR1 := Lib.hid (hR.out.1.stored (j := k2) y)
                        have HE1 := Lib.hid (hR.out.2.setCell (p := ⟨g, k2, none⟩) (.inl (Hlt4.out g rfl)) (.int .i32 y))
                        clear hR
                        go_wp2_with fail
                        go_roundw
                        case rel => exact ⟨k2 + 1, by omega, by go_num, Lib.hid ⟨HR1.out, HE1.out⟩⟩
                        case measure => simp [intOf] <;> omega
                      · obtain rfl : k2 = rl.length := by omega
                        have HE := Lib.hid hR.out.2
                        clear hR
                        go_wp2_with fail
                        go_meet
                        case rel => exact ⟨b, rb, t, rfl, rfl, Lib.hid ⟨by have h := HSt.out.spoil HX6.out HE.out (fun j hj => hj.1); exact ⟨h.hb, h.hrb, h.ne, h.tb, h.rf, h.ok.mono (by omega), h.n0⟩, Ext.from (HXB.out.trans (HX6.out.mono HXB.out.size)) HE.out (fun j hj => Nat.le_trans HSt.out.n0 hj.1)⟩⟩
                  · have hb2 : (what == (2 : Int)) = false := by simpa using hw2
                    by_cases hw3 : what = 3
                    · subst hw3
                      clear hb0 hw0 hb1 hw1 hb2 hw2
                      go_wp2_with fail
                      refine (flat_all HSt.out.tb HSt.out.ok (by omega)).mono ?_
                      rintro e w4 ⟨⟨v4, rfl⟩, htb4, hE4⟩
                      have HT4 := Lib.hid htb4
                      have HE4 := Lib.hid hE4
                      clear htb4 hE4
                      go_wp2_with fail
                      refine (rf_text (HSt.out.rfo.ext HE4.out (fun j hj he => SO.nb _ _ _ _ (he ▸ hj)) (fun e => HSt.out.ne e.symm)) (by rw [Rf.len_of HSt.out.ok]; have := HSt.out.ok.n; omega)).mono ?_
                      rintro e w5 ⟨v5, rfl, ho5, hX5⟩
                      have htl : (Rf.of t).text.length ≤ 300 + 100 * k := by rw [Rf.text_of, HSt.out.ok.text_len]; exact HSt.out.ok.n
                      obtain ⟨q5, d5, rfl⟩ := own_slice ho5
                      have HX5 := Lib.hid hX5
                      have Hnw := Lib.hid (rf_new (CharOwn.rd ho5) (by omega))
                      clear ho5 hX5
                      generalize (Rf.of t).text.length = n5 at *
                      go_wp2_with fail
                      refine Hnw.out.mono ?_
                      rintro e w6 ⟨rb6, rfl, hrb6, hrf6, hX6⟩
                      have HF := Lib.hid (HSt.out.flat HT4.out HE4.out HX5.out hrb6 hrf6 hX6)
                      have HXF := Lib.hid ((Ext.from HXB.out HE4.out (fun j hj => by rw [hj]; exact HSt.out.hb)).trans ((HX5.out.trans (hX6.mono HX5.out.size)).mono (Nat.le_trans HSt.out.n0 HE4.out.size)))
                      clear hrf6 hX6 hrb6
                      go_wp2_with fail
                      go_meet
                      case rel => exact ⟨b, rb6, t.flat, rfl, rfl, Lib.hid ⟨by have h := HF.out; exact ⟨h.hb, h.hrb, h.ne, h.tb, h.rf, h.ok.mono (by omega), h.n0⟩, HXF.out⟩⟩
                    · have hb3 : (what == (3 : Int)) = false := by simpa using hw3
                      by_cases hw4 : what = 4
                      · subst hw4
                        clear hb0 hw0 hb1 hw1 hb2 hw2 hb3 hw3
                        go_wp2_with fail
                        refine (copy_all HSt.out.tb HSt.out.ok (by omega)).mono ?_
                        rintro e w4 ⟨b4, rfl, hb4, htb4, hX4⟩
                        have HT4 := Lib.hid (And.intro hb4 htb4)
                        have HX4 := Lib.hid hX4
                        clear htb4 hX4 hb4
                        go_wp2_with fail
                        refine (chars_at (l := [122, 122]) (by decide) (by decide)).mono ?_
                        rintro e w5 ⟨q5, d5, rfl, H5⟩
                        go_wp2_with fail
                        refine (ins_all (T := SS w.heap.size b rb) (N := 300 + 100 * k) (pos := 0) (l := [122, 122]) ((HSt.out.tb.below HX4.out).below H5.out.2) (fun h => h.2.1 rfl) HSt.out.ok (by omega) H5.out.1.rd (NilOk.own H5.out.1) (by decide)).mono ?_
                        rintro e w6 ⟨rfl, htb6, hE6⟩
                        have HT6 := Lib.hid htb6
                        have HE6 := Lib.hid hE6
                        clear htb6 hE6
                        go_wp2_with fail
                        refine (del_all (N := 300 + 100 * k + 2) (pos := 0) (n := 1) HT6.out (by rintro (h | h); exact h.2.1 rfl; have := HSt.out.tb.lt; have := HX4.out.size; have := H5.out.2.size; omega) (Tb.ins_ok HSt.out.ok 0 [122, 122]) (by omega) (by omega) (by omega)).mono ?_
                        rintro e w7 ⟨rfl, htb7, hE7⟩
                        have HE7 := Lib.hid (show Ext (fun j => j = b) w4 w7 from ((Ext.of_below _ H5.out.2).trans HE6.out).trans hE7)
                        clear htb7 hE7
                        go_wp2_with fail
                        go_meet
                        case rel => exact ⟨b4, rb, t, rfl, rfl, Lib.hid ⟨by have h := HSt.out.copy HT4.out.1 HT4.out.2 HX4.out HE7.out; exact ⟨h.hb, h.hrb, h.ne, h.tb, h.rf, h.ok.mono (by omega), h.n0⟩, Ext.from (HXB.out.trans (HX4.out.mono HXB.out.size)) HE7.out (fun j hj => by rw [hj]; exact HSt.out.hb)⟩⟩
                      · have hb4 : (what == (4 : Int)) = false := by simpa using hw4
                        clear hw0 hw1 hw2 hw3 hw4
                        go_wp2_with fail
                        go_meet
                        case rel => exact ⟨b, rb, t, rfl, rfl, Lib.hid ⟨by have h := HSt.out; exact ⟨h.hb, h.hrb, h.ne, h.tb, h.rf, h.ok.mono (by omega), h.n0⟩, HXB.out⟩⟩
            case rest =>
              obtain ⟨b, rb, t, rfl, rfl, hC⟩ := hcut
              have hlen := Rf.len_of hC.out.1.ok
              have hcell : ∃ p0 cc, wc.cell? ⟨rb, 0, none⟩ = some (.slice p0 t.long cc) := by
                obtain ⟨p0, cc, hB, _⟩ := hC.out.1.rf.form
                rw [hlen] at hB
                exact ⟨p0, cc, hB.cell 0⟩
              obtain ⟨p0, cc, m0⟩ := hcell
              have hrlt := hC.out.1.rf.lt
              clear hlen
              go_wp2_with fail
              have hS : Hold1 (rb, 0, .slice p0 t.long cc) wc.drew := m0
              refine begin_D (T := Hold0) [] (by kernel_rfl) hS (fun _ => trivial) ?_
              refine take_S (v := ?v0r) 0 rfl (by kernel_rfl) (by kernel_rfl) (by kernel_rfl) (by kernel_rfl) (fun _ _ _ h => h) hS (fun _ => trivial) rfl (fun w' hq => ?h0r) ?_
              case h0r => change _ = some _ at hq; go_simp; try with_reducible rfl
              try simp only [Act.put, List.setIfInBounds_toArray, List.set_cons_zero, List.set_cons_succ, List.getElem_toArray, List.getElem_cons_succ, List.getElem_cons_zero]
              refine take_S (v := ?v2r) 2 rfl (by kernel_rfl) (by kernel_rfl) (by kernel_rfl) (by kernel_rfl) (fun _ _ _ h => h) hS (fun _ => trivial) rfl (fun w' hq => ?h2r) ?_
              case h2r => change _ = some _ at hq; go_simp; try with_reducible rfl
              try simp only [Act.put, List.setIfInBounds_toArray, List.set_cons_zero, List.set_cons_succ, List.getElem_toArray, List.getElem_cons_succ, List.getElem_cons_zero]
              refine take_S (v := ?v3r) 3 rfl (by kernel_rfl) (by kernel_rfl) (by kernel_rfl) (by kernel_rfl) (fun _ _ _ h => h) hS (fun _ => trivial) rfl (fun w' hq => ?h3r) ?_
              case h3r => change _ = some _ at hq; go_simp; try with_reducible rfl
              try simp only [Act.put, List.setIfInBounds_toArray, List.set_cons_zero, List.set_cons_succ, List.getElem_toArray, List.getElem_cons_succ, List.getElem_cons_zero]
              refine take_S (v := ?v4r) 4 rfl (by kernel_rfl) (by kernel_rfl) (by kernel_rfl) (by kernel_rfl) (fun _ _ _ h => h) hS (fun _ => trivial) rfl (fun w' hq => ?h4r) ?_
              case h4r => change _ = some _ at hq; go_simp; try with_reducible rfl
              try simp only [Act.put, List.setIfInBounds_toArray, List.set_cons_zero, List.set_cons_succ, List.getElem_toArray, List.getElem_cons_succ, List.getElem_cons_zero]
              refine take_S (v := ?v5r) 5 rfl (by kernel_rfl) (by kernel_rfl) (by kernel_rfl) (by kernel_rfl) (fun _ _ _ h => h) hS (fun _ => trivial) rfl (fun w' hq => ?h5r) ?_
              case h5r => change _ = some _ at hq; go_simp; try with_reducible rfl
              try simp only [Act.put, List.setIfInBounds_toArray, List.set_cons_zero, List.set_cons_succ, List.getElem_toArray, List.getElem_cons_succ, List.getElem_cons_zero]
              refine take_S (v := ?v6r) 6 rfl (by kernel_rfl) (by kernel_rfl) (by kernel_rfl) (by kernel_rfl) (fun _ _ _ h => h) hS (fun _ => trivial) rfl (fun w' hq => ?h6r) ?_
              case h6r => change _ = some _ at hq; go_simp; try with_reducible rfl
              try simp only [Act.put, List.setIfInBounds_toArray, List.set_cons_zero, List.set_cons_succ, List.getElem_toArray, List.getElem_cons_succ, List.getElem_cons_zero]
              refine one_D 1 rfl (by kernel_rfl) (fun KQ hK => ?_)
              go_simp
              refine (len_all (show TbAt wc.drew _ b t from hC.out.1.tb)).mono ?_
              rintro e w4 ⟨rfl, rfl⟩
              refine hK.out _ _ hS (fun _ => trivial) ?_
              clear hK
              refine take_S (v := (.bool false)) 7 rfl (by kernel_rfl) (by kernel_rfl) (by kernel_rfl) (by kernel_rfl) (fun _ _ _ h => h) hS (fun _ => trivial) rfl (fun w' hq => ?h7r) ?_
              case h7r => change _ = some _ at hq; go_simp; first | rfl | (simp; done) | skip
              try simp only [Act.put, List.setIfInBounds_toArray, List.set_cons_zero, List.set_cons_succ, List.getElem_toArray, List.getElem_cons_succ, List.getElem_cons_zero]
              refine take_S (v := ?v8s) 8 rfl (by kernel_rfl) (by kernel_rfl) (by kernel_rfl) (by kernel_rfl) (fun _ _ _ h => h) hS (fun _ => trivial) rfl (fun w' hq => ?h8s) ?_
              case h8s => change _ = some _ at hq; go_simp; try with_reducible rfl
              try simp only [Act.put, List.setIfInBounds_toArray, List.set_cons_zero, List.set_cons_succ, List.getElem_toArray, List.getElem_cons_succ, List.getElem_cons_zero]
              refine take_S (v := ?v9s) 9 rfl (by kernel_rfl) (by kernel_rfl) (by kernel_rfl) (by kernel_rfl) (fun _ _ _ h => h) hS (fun _ => trivial) rfl (fun w' hq => ?h9s) ?_
              case h9s => change _ = some _ at hq; go_simp; try with_reducible rfl
              try simp only [Act.put, List.setIfInBounds_toArray, List.set_cons_zero, List.set_cons_succ, List.getElem_toArray, List.getElem_cons_succ, List.getElem_cons_zero]
              refine take_S (v := ?v11s) 11 rfl (by kernel_rfl) (by kernel_rfl) (by kernel_rfl) (by kernel_rfl) (fun _ _ _ h => h) hS (fun _ => trivial) rfl (fun w' hq => ?h11s) ?_
              case h11s => change _ = some _ at hq; go_simp; try with_reducible rfl
              try simp only [Act.put, List.setIfInBounds_toArray, List.set_cons_zero, List.set_cons_succ, List.getElem_toArray, List.getElem_cons_succ, List.getElem_cons_zero]
              refine one_D 10 rfl (by kernel_rfl) (fun KQ hK => ?_)
              go_simp
              refine (text_all (show TbAt wc.drew _ b t from hC.out.1.tb) hC.out.1.ok (by omega)).mono ?_
              rintro e w4 ⟨v4, rfl, ho4, hX4⟩
              have hXw4 := hX4
              have z4 := hX4.size
              have hSw4 : Hold1 (rb, 0, .slice p0 t.long cc) w4 := (hXw4.cell (p := ⟨rb, 0, none⟩) (Nat.lt_of_lt_of_le hrlt (Nat.le_refl _))).trans hS
              refine hK.out _ _ hSw4 (fun _ => trivial) ?_
              clear hK
              refine one_D 12 rfl (by kernel_rfl) (fun KQ hK => ?_)
              go_simp
              refine (rf_text (RfAt.below (show RfAt wc.drew _ rb (Rf.of t) from hC.out.1.rf) hX4) (by rw [Rf.len_of hC.out.1.ok]; have := hC.out.1.ok.n; omega)).mono ?_
              rintro e w5 ⟨v5, rfl, ho5, hX5⟩
              have hXw5 := hX5
              have z5 := Nat.le_trans z4 hX5.size
              rw [Rf.text_of] at ho5
              have hSw5 : Hold1 (rb, 0, .slice p0 t.long cc) w5 := (hXw5.cell (p := ⟨rb, 0, none⟩) (Nat.lt_of_lt_of_le hrlt z4)).trans hSw4
              refine hK.out _ _ hSw5 (fun _ => trivial) ?_
              clear hK
              refine one_D 13 rfl (by kernel_rfl) (fun KQ hK => ?_)
              go_simp
              refine (same5 (CharRd.below (CharOwn.rd ho4) hX5) (CharOwn.rd ho5) (by rw [hC.out.1.ok.text_len]; have := hC.out.1.ok.n; omega) (by rw [hC.out.1.ok.text_len]; have := hC.out.1.ok.n; omega)).mono ?_
              rintro e w6 ⟨rfl, hX6⟩
              have hXw6 := hX6
              have z6 := Nat.le_trans z5 hX6.size
              have hSw6 : Hold1 (rb, 0, .slice p0 t.long cc) w6 := (hXw6.cell (p := ⟨rb, 0, none⟩) (Nat.lt_of_lt_of_le hrlt z5)).trans hSw5
              rw [decide_eq_true rfl]
              refine hK.out _ _ hSw6 (fun _ => trivial) ?_
              clear hK
              refine take_S (v := ?v14t) 14 rfl (by kernel_rfl) (by kernel_rfl) (by kernel_rfl) (by kernel_rfl) (fun _ _ _ h => h) hSw6 (fun _ => trivial) rfl (fun w' hq => ?h14t) ?_
              case h14t => change _ = some _ at hq; go_simp; try with_reducible rfl
              try simp only [Act.put, List.setIfInBounds_toArray, List.set_cons_zero, List.set_cons_succ, List.getElem_toArray, List.getElem_cons_succ, List.getElem_cons_zero]
              refine take_S (v := ?v15t) 15 rfl (by kernel_rfl) (by kernel_rfl) (by kernel_rfl) (by kernel_rfl) (fun _ _ _ h => h) hSw6 (fun _ => trivial) rfl (fun w' hq => ?h15t) ?_
              case h15t => change _ = some _ at hq; go_simp; try with_reducible rfl
              try simp only [Act.put, List.setIfInBounds_toArray, List.set_cons_zero, List.set_cons_succ, List.getElem_toArray, List.getElem_cons_succ, List.getElem_cons_zero]
              refine take_S (v := ?v16t) 16 rfl (by kernel_rfl) (by kernel_rfl) (by kernel_rfl) (by kernel_rfl) (fun _ _ _ h => h) hSw6 (fun _ => trivial) rfl (fun w' hq => ?h16t) ?_
              case h16t => change _ = some _ at hq; go_simp; try with_reducible rfl
              try simp only [Act.put, List.setIfInBounds_toArray, List.set_cons_zero, List.set_cons_succ, List.getElem_toArray, List.getElem_cons_succ, List.getElem_cons_zero]
              refine take_S (v := ?v17t) 17 rfl (by kernel_rfl) (by kernel_rfl) (by kernel_rfl) (by kernel_rfl) (fun _ _ _ h => h) hSw6 (fun _ => trivial) rfl (fun w' hq => ?h17t) ?_
              case h17t => change _ = some _ at hq; go_simp; try with_reducible rfl
              try simp only [Act.put, List.setIfInBounds_toArray, List.set_cons_zero, List.set_cons_succ, List.getElem_toArray, List.getElem_cons_succ, List.getElem_cons_zero]
              refine take_S (v := ?v19t) 19 rfl (by kernel_rfl) (by kernel_rfl) (by kernel_rfl) (by kernel_rfl) (fun _ _ _ h => h) hSw6 (fun _ => trivial) rfl (fun w' hq => ?h19t) ?_
              case h19t => change _ = some _ at hq; go_simp; try with_reducible rfl
              try simp only [Act.put, List.setIfInBounds_toArray, List.set_cons_zero, List.set_cons_succ, List.getElem_toArray, List.getElem_cons_succ, List.getElem_cons_zero]
              have hXc := hX4.trans ((hX5.trans (hX6.mono hX5.size)).mono hX4.size)
              refine one_D 18 rfl (by kernel_rfl) (fun KQ hK => ?_)
              go_simp
              refine (pieces_all (TbAt.below (show TbAt wc.drew _ b t from hC.out.1.tb) hXc) hC.out.1.ok (by omega)).mono ?_
              rintro e w7 ⟨v7, rfl, ho7, hX7⟩
              have hXw7 := hX7
              have z7 := Nat.le_trans z6 hX7.size
              have hSw7 : Hold1 (rb, 0, .slice p0 t.long cc) w7 := (hXw7.cell (p := ⟨rb, 0, none⟩) (Nat.lt_of_lt_of_le hrlt z6)).trans hSw6
              refine hK.out _ _ hSw7 (fun _ => trivial) ?_
              clear hK
              have hXd := hXc.trans (hX7.mono hXc.size)
              refine one_D 20 rfl (by kernel_rfl) (fun KQ hK => ?_)
              go_simp
              refine (rf_pieces (RfAt.below (show RfAt wc.drew _ rb (Rf.of t) from hC.out.1.rf) hXd) (by rw [Rf.len_of hC.out.1.ok]; have := hC.out.1.ok.n; omega) (fun x hx => by have := Rf.at_of hC.out.1.ok x hx; omega)).mono ?_
              rintro e w8 ⟨v8, rfl, ho8, hX8⟩
              have hXw8 := hX8
              have z8 := Nat.le_trans z7 hX8.size
              rw [Rf.pieces_of hC.out.1.ok] at ho8
              have hSw8 : Hold1 (rb, 0, .slice p0 t.long cc) w8 := (hXw8.cell (p := ⟨rb, 0, none⟩) (Nat.lt_of_lt_of_le hrlt z7)).trans hSw7
              refine hK.out _ _ hSw8 (fun _ => trivial) ?_
              clear hK
              have hXe := hXd.trans (hX8.mono hXd.size)
              refine one_D 21 rfl (by kernel_rfl) (fun KQ hK => ?_)
              go_simp
              refine (law_same (PcsRd.below (PcsOwn.rd ho7) hX8) (RpcOwn.rd ho8) (by have := hC.out.1.ok.pcs; omega)).mono ?_
              rintro e w9 ⟨rfl, hX9⟩
              have hXw9 := hX9
              have hSw9 : Hold1 (rb, 0, .slice p0 t.long cc) w9 := (hXw9.cell (p := ⟨rb, 0, none⟩) (Nat.lt_of_lt_of_le hrlt z8)).trans hSw8
              refine hK.out _ _ hSw9 (fun _ => trivial) ?_
              clear hK
              have HXf := Lib.hid (hXe.trans (hX9.mono hXe.size))
              refine take_S (v := ?v22u) 22 rfl (by kernel_rfl) (by kernel_rfl) (by kernel_rfl) (by kernel_rfl) (fun _ _ _ h => h) hSw9 (fun _ => trivial) rfl (fun w' hq => ?h22u) ?_
              case h22u => change _ = some _ at hq; go_simp; try with_reducible rfl
              try simp only [Act.put, List.setIfInBounds_toArray, List.set_cons_zero, List.set_cons_succ, List.getElem_toArray, List.getElem_cons_succ, List.getElem_cons_zero]
              refine take_S (v := ?v23u) 23 rfl (by kernel_rfl) (by kernel_rfl) (by kernel_rfl) (by kernel_rfl) (fun _ _ _ h => h) hSw9 (fun _ => trivial) rfl (fun w' hq => ?h23u) ?_
              case h23u => change _ = some _ at hq; go_simp; try with_reducible rfl
              try simp only [Act.put, List.setIfInBounds_toArray, List.set_cons_zero, List.set_cons_succ, List.getElem_toArray, List.getElem_cons_succ, List.getElem_cons_zero]
              refine done_D (by kernel_rfl) ?_ _
              clear hS hSw4 hSw5 hSw6 hSw7 hSw8 hSw9 hXw4 hXw5 hXw6 hXw7 hXw8 hXw9 hX4 hX5 hX6 hX7 hX8 hX9 hXc hXd hXe ho4 ho5 ho7 ho8 m0
              go_wp2_with fail
              go_roundw
              case rel => exact ⟨k + 1, b, rb, t, by omega, by omega, rfl, rfl, by go_num, Lib.hid ⟨hC.out.1.below (show Below wc.heap.size wc _ from (Below.refl wc.heap.size wc).drew.trans HXf.out), hC.out.2.trans (((Below.refl wc.heap.size wc).drew.trans HXf.out).mono hC.out.2.size)⟩⟩
              case measure => simp [intOf] <;> omega
        · have HX := Lib.hid hR.out.2
          have hke : k = acts.length := by omega
          clear hR
          subst hke
          go_wp2_with fail
          refine awake5.mono ?_
          rintro e w4 ⟨rfl, hX⟩
          have HXe := Lib.hid (HX.out.trans (hX.mono HX.out.size))
          clear hX
          go_wp2_with fail
          go_ret
          exact ⟨rfl, HXe.out⟩
end Go.Proofs.Ytelaiafpfaohfaa
