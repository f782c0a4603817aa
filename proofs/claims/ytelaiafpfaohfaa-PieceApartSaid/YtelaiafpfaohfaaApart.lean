/-
  PieceApart's walk: it returns true.
-/
import Derived.Test.YtelaiafpfaohfaaApartL
import Derived.Test.YtelaiafpfaohfaaReads5
import Derived.Deep.DeepCutAuto
import Derived.Deep.CutBlock
import Derived.Lib.Builder
namespace Go.Proofs.Ytelaiafpfaohfaa
open Go.RowKit
set_option linter.unusedSimpArgs false
set_option linter.unusedVariables false

theorem infoTab : (Try.prog.info? 63).map (fun i => i.size) = some 5 := by kernel_rfl
theorem neq_same (w : World) (b : Nat) : (binOp .neq 25 (.pointer (some ⟨b, 0, none⟩)) (.pointer (some ⟨b, 0, none⟩))).run Try.prog w = .ok (.bool false) w := by
  obtain ⟨j, hj, -⟩ := Option.map_eq_some_iff.1 infoTab
  exact Lib.run_neq_ptr_same w _ Try.underlying25 hj
theorem neq_other {w : World} {a b : Nat} {ca cb : Array Value} {ta tb : TypeId} (ha : Blk w a ta ca) (hb : Blk w b tb cb) (hne : a ≠ b) : (binOp .neq 25 (.pointer (some ⟨a, 0, none⟩)) (.pointer (some ⟨b, 0, none⟩))).run Try.prog w = .ok (.bool true) w := by
  obtain ⟨j, hj, hz⟩ := Option.map_eq_some_iff.1 infoTab
  have hsz : j.size ≠ 0 := by rw [hz]; decide
  have hn : (⟨a, 0, none⟩ : Addr) ≠ ⟨b, 0, none⟩ := fun e => hne (by injection e)
  have h : ∀ d : Nat, (Op.equalIn (d + 1) 25 (.pointer (some ⟨a, 0, none⟩)) (.pointer (some ⟨b, 0, none⟩))).run Try.prog w = .ok false w := fun d => by
    simp [Op.equalIn, run_underlying Try.underlying25, sizeOf, typeInfo, hj, hsz, run_sameAddr_other w hn ha hb]
  simp only [binOp]
  simp [Op.equal, Op.maxDepth, h 9999]

set_option maxHeartbeats 25600000 in
set_option maxRecDepth 100000 in
theorem apart_walk {w : World} {v v2 : Value} {at_ : Int} {text : List Int} {acts : List Actn} (ht : CharRd w (fun j => j < w.heap.size) v text) (hac : ActsRd w (fun j => j < w.heap.size) v2 acts) (hok : ActsOk acts) (ha0 : 0 ≤ at_) (ha : at_ ≤ 255) :
    Calls Try.prog 7 #[v, v2, .int .u8 at_] w fun e w' => e = .returned (.bool true) ∧ Below w.heap.size w w' := by
  have hmf : ∀ (fn : Fn) (first cap : Array Value) (w : World), (Instr.makeFunc fn first cap).run Try.prog w = .ok (.func fn first cap) w := fun _ _ _ _ => rfl
  obtain ⟨p, c, rfl⟩ := Rd.slice ht
  obtain ⟨p2, c2, rfl⟩ : ∃ p c, v2 = .slice p acts.length c := by obtain ⟨_, hr, _⟩ := hac; exact Rd.slice hr
  have hlc : text.length ≤ c ∧ c ≤ maxLen := by obtain ⟨_, _, _, h, h1, h2, _⟩ := ht; injection h with _ _ h; subst h; exact ⟨h1, h2⟩
  have hla : acts.length ≤ maxLen := by obtain ⟨_, hr, _⟩ := hac; exact Rd.le hr
  unfold maxLen at hlc hla
  obtain ⟨tx, htx⟩ : ∃ x, text.take 300 = x := ⟨_, rfl⟩
  obtain ⟨hr0, hx300, hxl⟩ := take_own ht htx
  have hm : (if (300 : Int) < (text.length : Int) then (300 : Int) else (text.length : Int)) = (tx.length : Int) := by rw [← htx, List.length_take]; split <;> omega
  have hxc : (tx.length : Int) ≤ (c : Int) := by omega
  have H := Lib.hid hr0
  have Ha := Lib.hid hac
  have Hok := Lib.hid hok
  obtain ⟨m40, hm40, hm40l⟩ := tmod_nat ha0 (n := 40) (by omega)
  have hm40' : at_.tmod 40 = (m40 : Int) := hm40
  clear htx hr0 ht hac hok hm40
  go_enter Try.func7, Try.ntmps7
  go_wp2_with fail
  refine (new_all H.out (by omega)).mono ?_
  rintro e w1 ⟨b, rfl, hb, htb, hX1⟩
  have HX1 := Lib.hid hX1
  have HT := Lib.hid (Ap.new hb htb hX1 ((Tb.new_ok tx).mono hx300))
  clear hb htb hX1 hm
  go_wp2_with fail
  go_loopw [8, 23] (fun uv i wr => ∃ (k A ub : Nat) (t : Tb), k ≤ acts.length ∧ k ≤ 40 ∧ uv = .pointer (some ⟨ub, 0, none⟩) ∧ i = .int .i64 k ∧ Hid (Ap w.heap.size A wr b ub t (300 + 100 * k) ∧ Below w.heap.size w wr)) (fun _ i _ => acts.length - (intOf i).toNat)
  case atStart => exact ⟨0, _, b, _, Nat.zero_le _, Nat.zero_le _, rfl, rfl, Lib.hid ⟨HT.out, HX1.out⟩⟩
  case round =>
    obtain ⟨k, A0, ub, t, hk, hk40, rfl, rfl, hR⟩ := hrel
    by_cases hlt : k < acts.length
    · obtain ⟨bk, off, qa, da, he, e0, e1, e2, e3, hq, hnil, hbd, hbd2, hacl⟩ := ActsRd.at_ (Ha.out.below hR.out.2) hlt
      subst he
      unfold maxLen at hbd2
      have hint := Hok.out acts[k] (List.getElem_mem hlt)
      generalize acts[k]'hlt = ac at *
      obtain ⟨what, pos, n, l⟩ := ac
      simp only at e0 e1 e2 e3 hq hnil hbd hint
      have hbA := (Below.refl wr.heap.size wr).alloc (Nat.le_refl _) (.cells #[.int .i64 what, .int .i64 pos, .int .i64 n, .slice qa l.length da] 31)
      have HXB := Lib.hid (hR.out.2.trans (hbA.mono hR.out.2.size))
      by_cases h40 : k = 40
      · subst h40
        clear hR hq hnil hint hbA
        go_wp2_with fail
        refine awake5.mono ?_
        rintro e w4 ⟨rfl, hX⟩
        have HX := Lib.hid (HXB.out.trans (hX.mono HXB.out.size))
        clear hX
        go_wp2_with fail
        go_ret
        exact ⟨rfl, HX.out⟩
      · obtain ⟨x, hx⟩ : ∃ x, l.take 100 = x := ⟨_, rfl⟩
        obtain ⟨hrx, hx100, hxl⟩ := take_own hq hx
        have hm : (if (100 : Int) < (l.length : Int) then (100 : Int) else (l.length : Int)) = (x.length : Int) := by rw [← hx, List.length_take]; split <;> omega
        have hxd : (x.length : Int) ≤ (da : Int) := by omega
        have HNx := Lib.hid (NilOk.front (k := x.length) hnil)
        have HAp := Lib.hid (hR.out.1.box (.cells #[.int .i64 what, .int .i64 pos, .int .i64 n, .slice qa l.length da] 31))
        have HXq := Lib.hid (hrx.below hbA)
        have HAB := Lib.hid (Blk.new wr 31 #[.int .i64 what, .int .i64 pos, .int .i64 n, .slice qa l.length da])
        have Hint := Lib.hid hint
        have hk4 : k < 40 := by omega
        clear hR hq hnil hrx hbA hint hx h40
        go_upto_if 34 with fail
        generalize hWg : wr.alloc (.cells #[.int .i64 what, .int .i64 pos, .int .i64 n, .slice qa l.length da] 31) = W at *
        clear hWg
        generalize wr.heap.size = A at *
        go_cut [8] (fun uv wx => ∃ ub : Nat, uv = .pointer (some ⟨ub, 0, none⟩) ∧ Hid (Ap w.heap.size A wx b ub t (300 + 100 * k) ∧ Below W.heap.size W wx))
        case first =>
          by_cases hkm : k = m40
          · subst hkm
            go_wp2_with fail
            refine (copy_all HAp.out.tb HAp.out.ok (by omega)).mono ?_
            rintro e w4 ⟨b4, rfl, hb4, htb4, hX4⟩
            have HC := Lib.hid (And.intro (HAp.out.copy HAB.out.lt hX4 hb4 htb4) hX4)
            clear htb4 hX4 hb4
            go_wp2_with fail
            go_meet
            case rel => exact ⟨b4, rfl, HC⟩
          · have hbk : ((k : Int) == (m40 : Int)) = false := by rw [beq_eq_false_iff_ne]; omega
            clear hkm
            go_wp2_with fail
            go_meet
            case rel => exact ⟨ub, rfl, Lib.hid ⟨HAp.out, Below.refl _ _⟩⟩
        case rest =>
          obtain ⟨ub, rfl, hC⟩ := hcut
          have HC := Lib.hid hC.out.1
          have HW := Lib.hid hC.out.2
          have hAc := HAB.out.below hC.out.2
          obtain ⟨c0, c1, c2', c3, f0, f1, f2, f3, hAlt⟩ := hAc.c4
          have hE1 : Ext (fun j => j = A) wc (wc.setCell ⟨A, 3, none⟩ (.slice qa x.length da)) := Ext.set1 (M := fun j => j = A) (Ext.refl _ wc) rfl
          have HD := Lib.hid (HC.out.set hE1)
          have HAD := Lib.hid (show Blk (wc.setCell ⟨A, 3, none⟩ (.slice qa x.length da)) A 31 #[.int .i64 what, .int .i64 pos, .int .i64 n, .slice qa x.length da] from hAc.set_ 3 (.slice qa x.length da))
          have HXD := Lib.hid (show CharRd (wc.setCell ⟨A, 3, none⟩ (.slice qa x.length da)) (fun j => j < w.heap.size) (.slice qa x.length da) x from Rd.ext (HXq.out.below HW.out) hE1 (fun j hj he => by have := HC.out.hA; omega) (by decide))
          have HYD := Lib.hid (Ext.from (HXB.out.trans (HW.out.mono HXB.out.size)) hE1 (fun j hj => by rw [hj]; exact HC.out.hA))
          clear hC hAc hE1
          go_wp2_with fail
          generalize hVg : wc.setCell ⟨A, 3, none⟩ (.slice qa x.length da) = V at *
          clear hVg
          refine (copy_all HD.out.tb HD.out.ok (by omega)).mono ?_
          rintro e w4 ⟨ob, rfl, hob, hto, hX4⟩
          have HO4 := Lib.hid (And.intro hob hto)
          have HX4 := Lib.hid hX4
          clear hob hto hX4
          go_wp2_with fail
          refine (does_any (HAD.out.below HX4.out) HO4.out.2 (fun h => h.2 rfl) HD.out.ok (by omega) (HXD.out.below HX4.out) HNx.out (by omega) Hint.out.1 Hint.out.2).mono ?_
          rintro e w5 ⟨rfl, hto5, hE5⟩
          have HE5 := Lib.hid hE5
          have HO5 := Lib.hid hto5
          have Hok' := Lib.hid (doesF_ok (what := what) (pos := pos) (n := n) (x := x) HD.out.ok)
          clear hto5 hE5
          go_wp2_with fail
          refine (flat_all HO5.out Hok'.out (by omega)).mono ?_
          rintro e w6 ⟨⟨vv, rfl⟩, hto6, hE6⟩
          have HE6 := Lib.hid (HE5.out.trans hE6)
          have HO6 := Lib.hid hto6
          have Hz5 := Lib.hid (Nat.le_trans HX4.out.size HE5.out.size)
          have HF := Lib.hid (HD.out.other HX4.out HO4.out.1 HE6.out)
          have hAne : ¬ A = ob := by have := HAD.out.lt; have := HO4.out.1; omega
          have HA6 := Lib.hid ((HAD.out.below HX4.out).ext HE6.out hAne)
          have HX6 := Lib.hid (show CharRd w6 (fun j => j < w.heap.size) (.slice qa x.length da) x from Rd.ext (HXD.out.below HX4.out) HE6.out (fun j hj he => by have := HD.out.n0; have := HO4.out.1; omega) (by decide))
          have HY6 := Lib.hid (Ext.from (HYD.out.trans (HX4.out.mono HYD.out.size)) HE6.out (fun j hj => by rw [hj]; exact Nat.le_trans HD.out.n0 HO4.out.1))
          have Hobn := Lib.hid (show ob ≠ b ∧ ob ≠ ub from ⟨fun e => by have := HD.out.tb.lt; have := HO4.out.1; omega, fun e => by have := HD.out.tu.lt; have := HO4.out.1; omega⟩)
          clear hto6 hE6 hAne
          go_wp2_with fail
          refine (does_any HA6.out HF.out.tb (Qn.nb _ _ _ _) HF.out.ok (by omega) HX6.out HNx.out (by omega) Hint.out.1 Hint.out.2).mono ?_
          rintro e w7 ⟨rfl, htb7, hE7⟩
          have HE7 := Lib.hid hE7
          have HT7 := Lib.hid htb7
          have HO7 := Lib.hid (HO6.out.ext hE7 (fun j hj he => by have := HD.out.tb.lt; have := Hz5.out; omega) Hobn.out.1)
          have HY7 := Lib.hid (Ext.from HY6.out hE7 (fun j hj => by rw [hj]; exact HD.out.hb))
          clear htb7 hE7
          have HO7f := Lib.hid (And.intro HO7.out (Tb.flat_ok Hok'.out))
          generalize hdd : doesF what pos n x t = dd at *
          have Hdd := Lib.hid hdd
          clear hdd
          obtain ⟨e1, t2⟩ := dd
          have Hfk := Lib.hid (show t2.flat.Ok _ from HO7f.out.2)
          by_cases hub : ub = b
          · subst hub
            have HG := Lib.hid (HF.out.one HA6.out.lt HT7.out HE7.out.size Hok'.out)
            have HO8 := Lib.hid (show TbAt w7 _ ob t2.flat from HO7f.out.1)
            have HY8 := HY7
            have qn := neq_same w7 ub
            go_wp2_with fail
            refine (text_all HG.out.tu HG.out.ok (by omega)).mono ?_
            rintro e y0 ⟨z0, rfl, ho0, hX0⟩
            have HZ0 := Lib.hid hX0
            have HO_0 := Lib.hid ho0
            clear ho0 hX0
            go_wp2_with fail
            refine (text_all (HG.out.tb.below HZ0.out) HG.out.ok (by omega)).mono ?_
            rintro e y1 ⟨z1, rfl, ho1, hX1⟩
            have HZ1 := Lib.hid (HZ0.out.trans (hX1.mono HZ0.out.size))
            have HS1 := Lib.hid hX1
            have HO_1 := Lib.hid ho1
            clear ho1 hX1
            go_wp2_with fail
            refine (eq_chars ((CharOwn.rd HO_0.out).below HS1.out) (CharOwn.rd HO_1.out) (by rw [HG.out.ok.text_len]; have := HG.out.ok.n; omega)).mono ?_
            rintro e y2 ⟨rfl, hX2⟩
            have HZ2 := Lib.hid (HZ1.out.trans (hX2.mono HZ1.out.size))
            have HS2 := Lib.hid hX2
            clear hX2
            go_wp2_with fail
            refine (pieces_all (HG.out.tu.below HZ2.out) HG.out.ok (by omega)).mono ?_
            rintro e y3 ⟨z3, rfl, ho3, hX3⟩
            have HZ3 := Lib.hid (HZ2.out.trans (hX3.mono HZ2.out.size))
            have HS3 := Lib.hid hX3
            have HO_3 := Lib.hid ho3
            clear ho3 hX3
            go_wp2_with fail
            refine (pieces_all (HG.out.tb.below HZ3.out) HG.out.ok (by omega)).mono ?_
            rintro e y4 ⟨z4, rfl, ho4, hX4⟩
            have HZ4 := Lib.hid (HZ3.out.trans (hX4.mono HZ3.out.size))
            have HS4 := Lib.hid hX4
            have HO_4 := Lib.hid ho4
            clear ho4 hX4
            go_wp2_with fail
            refine (eq_pcs ((PcsOwn.rd HO_3.out).below HS4.out) (PcsOwn.rd HO_4.out) (by have := HG.out.ok.pcs; omega)).mono ?_
            rintro e y5 ⟨rfl, hX5⟩
            have HZ5 := Lib.hid (HZ4.out.trans (hX5.mono HZ4.out.size))
            have HS5 := Lib.hid hX5
            clear hX5
            go_wp2_with fail
            refine (text_all (HO8.out.below HZ5.out) Hfk.out (by omega)).mono ?_
            rintro e y6 ⟨z6, rfl, ho6, hX6⟩
            have HZ6 := Lib.hid (HZ5.out.trans (hX6.mono HZ5.out.size))
            have HS6 := Lib.hid hX6
            have HO_6 := Lib.hid ho6
            clear ho6 hX6
            go_wp2_with fail
            refine (text_all (HG.out.tb.below HZ6.out) HG.out.ok (by omega)).mono ?_
            rintro e y7 ⟨z7, rfl, ho7, hX7⟩
            have HZ7 := Lib.hid (HZ6.out.trans (hX7.mono HZ6.out.size))
            have HS7 := Lib.hid hX7
            have HO_7 := Lib.hid ho7
            clear ho7 hX7
            go_wp2_with fail
            refine (eq_chars (by have h := (CharOwn.rd HO_6.out).below HS7.out; rw [Tb.flat_text] at h; exact h) (CharOwn.rd HO_7.out) (by rw [HG.out.ok.text_len]; have := HG.out.ok.n; omega)).mono ?_
            rintro e y8 ⟨rfl, hX8⟩
            have HZ8 := Lib.hid (HZ7.out.trans (hX8.mono HZ7.out.size))
            have HS8 := Lib.hid hX8
            clear hX8
            go_wp2_with fail
            refine (pieces_all (HO8.out.below HZ8.out) Hfk.out (by omega)).mono ?_
            rintro e y9 ⟨z9, rfl, ho9, hX9⟩
            have HZ9 := Lib.hid (HZ8.out.trans (hX9.mono HZ8.out.size))
            have HS9 := Lib.hid hX9
            have HO_9 := Lib.hid ho9
            clear ho9 hX9
            obtain ⟨q9, d9, rfl⟩ := own_slice HO_9.out
            have hfl := Tb.flat_pcs (t := t2)
            clear HO_9
            generalize t2.flat.ps.length = l9 at *
            go_wp2_with fail
            go_roundw
            case rel => exact ⟨k + 1, A, _, t2, by omega, by omega, rfl, by go_num, Lib.hid ⟨(HG.out.below HZ9.out).mono (by omega), HY8.out.trans (HZ9.out.mono HY8.out.size)⟩⟩
            case measure => simp [intOf] <;> omega
          · have HG7 := Lib.hid ((HF.out.tu.ext HE7.out (fun j hj he => hj.2.1 he) hub))
            have HA7 := Lib.hid (HA6.out.ext HE7.out HF.out.neb)
            have HX7 := Lib.hid (show CharRd w7 (fun j => j < w.heap.size) (.slice qa x.length da) x from Rd.ext HX6.out HE7.out (fun j hj he => by have := HD.out.hb; omega) (by decide))
            obtain ⟨_, _, _, hBu⟩ := HG7.out.blk
            obtain ⟨_, _, _, hBb⟩ := HT7.out.blk
            have qn := neq_other hBu hBb hub
            clear hBu hBb
            go_wp2_with fail
            refine (does_any HA7.out HG7.out (Qn.nu _ _ _ _) HF.out.ok (by omega) HX7.out HNx.out (by omega) Hint.out.1 Hint.out.2).mono ?_
            rw [Hdd.out]
            rintro e w8 ⟨rfl, htu8, hE8⟩
            have HG := Lib.hid (HF.out.two HA6.out.lt hub HT7.out HE7.out.size htu8 hE8 Hok'.out)
            have HO8 := Lib.hid (show TbAt w8 _ ob t2.flat from HO7f.out.1.ext hE8 (fun j hj he => by have := HD.out.tu.lt; have := Hz5.out; omega) Hobn.out.2)
            have HY8 := Lib.hid (Ext.from HY7.out hE8 (fun j hj => by rw [hj]; exact HD.out.hub))
            clear htu8 hE8 qn hub
            go_wp2_with fail
            refine (text_all HG.out.tu HG.out.ok (by omega)).mono ?_
            rintro e y0 ⟨z0, rfl, ho0, hX0⟩
            have HZ0 := Lib.hid hX0
            have HO_0 := Lib.hid ho0
            clear ho0 hX0
            go_wp2_with fail
            refine (text_all (HG.out.tb.below HZ0.out) HG.out.ok (by omega)).mono ?_
            rintro e y1 ⟨z1, rfl, ho1, hX1⟩
            have HZ1 := Lib.hid (HZ0.out.trans (hX1.mono HZ0.out.size))
            have HS1 := Lib.hid hX1
            have HO_1 := Lib.hid ho1
            clear ho1 hX1
            go_wp2_with fail
            refine (eq_chars ((CharOwn.rd HO_0.out).below HS1.out) (CharOwn.rd HO_1.out) (by rw [HG.out.ok.text_len]; have := HG.out.ok.n; omega)).mono ?_
            rintro e y2 ⟨rfl, hX2⟩
            have HZ2 := Lib.hid (HZ1.out.trans (hX2.mono HZ1.out.size))
            have HS2 := Lib.hid hX2
            clear hX2
            go_wp2_with fail
            refine (pieces_all (HG.out.tu.below HZ2.out) HG.out.ok (by omega)).mono ?_
            rintro e y3 ⟨z3, rfl, ho3, hX3⟩
            have HZ3 := Lib.hid (HZ2.out.trans (hX3.mono HZ2.out.size))
            have HS3 := Lib.hid hX3
            have HO_3 := Lib.hid ho3
            clear ho3 hX3
            go_wp2_with fail
            refine (pieces_all (HG.out.tb.below HZ3.out) HG.out.ok (by omega)).mono ?_
            rintro e y4 ⟨z4, rfl, ho4, hX4⟩
            have HZ4 := Lib.hid (HZ3.out.trans (hX4.mono HZ3.out.size))
            have HS4 := Lib.hid hX4
            have HO_4 := Lib.hid ho4
            clear ho4 hX4
            go_wp2_with fail
            refine (eq_pcs ((PcsOwn.rd HO_3.out).below HS4.out) (PcsOwn.rd HO_4.out) (by have := HG.out.ok.pcs; omega)).mono ?_
            rintro e y5 ⟨rfl, hX5⟩
            have HZ5 := Lib.hid (HZ4.out.trans (hX5.mono HZ4.out.size))
            have HS5 := Lib.hid hX5
            clear hX5
            go_wp2_with fail
            refine (text_all (HO8.out.below HZ5.out) Hfk.out (by omega)).mono ?_
            rintro e y6 ⟨z6, rfl, ho6, hX6⟩
            have HZ6 := Lib.hid (HZ5.out.trans (hX6.mono HZ5.out.size))
            have HS6 := Lib.hid hX6
            have HO_6 := Lib.hid ho6
            clear ho6 hX6
            go_wp2_with fail
            refine (text_all (HG.out.tb.below HZ6.out) HG.out.ok (by omega)).mono ?_
            rintro e y7 ⟨z7, rfl, ho7, hX7⟩
            have HZ7 := Lib.hid (HZ6.out.trans (hX7.mono HZ6.out.size))
            have HS7 := Lib.hid hX7
            have HO_7 := Lib.hid ho7
            clear ho7 hX7
            go_wp2_with fail
            refine (eq_chars (by have h := (CharOwn.rd HO_6.out).below HS7.out; rw [Tb.flat_text] at h; exact h) (CharOwn.rd HO_7.out) (by rw [HG.out.ok.text_len]; have := HG.out.ok.n; omega)).mono ?_
            rintro e y8 ⟨rfl, hX8⟩
            have HZ8 := Lib.hid (HZ7.out.trans (hX8.mono HZ7.out.size))
            have HS8 := Lib.hid hX8
            clear hX8
            go_wp2_with fail
            refine (pieces_all (HO8.out.below HZ8.out) Hfk.out (by omega)).mono ?_
            rintro e y9 ⟨z9, rfl, ho9, hX9⟩
            have HZ9 := Lib.hid (HZ8.out.trans (hX9.mono HZ8.out.size))
            have HS9 := Lib.hid hX9
            have HO_9 := Lib.hid ho9
            clear ho9 hX9
            obtain ⟨q9, d9, rfl⟩ := own_slice HO_9.out
            have hfl := Tb.flat_pcs (t := t2)
            clear HO_9
            generalize t2.flat.ps.length = l9 at *
            go_wp2_with fail
            go_roundw
            case rel => exact ⟨k + 1, A, _, t2, by omega, by omega, rfl, by go_num, Lib.hid ⟨(HG.out.below HZ9.out).mono (by omega), HY8.out.trans (HZ9.out.mono HY8.out.size)⟩⟩
            case measure => simp [intOf] <;> omega
    · have HX := Lib.hid hR.out.2
      have hke : k = acts.length := by omega
      clear hR
      subst hke
      go_wp2_with fail
      refine awake5.mono ?_
      rintro e w4 ⟨rfl, hX⟩
      have HXe := Lib.hid (HX.out.trans (hX.mono HX.out.size))
      clear hX
      go_wp2_with fail
      go_ret
      exact ⟨rfl, HXe.out⟩
end Go.Proofs.Ytelaiafpfaohfaa
