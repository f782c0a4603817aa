/-
  PieceText's walk: it returns true. (Printed by wip/gen_ptext.py.)
-/
import Derived.Test.YtelaiafpfaohfaaPtextT
import Derived.Test.YtelaiafpfaohfaaPtextU
import Derived.Deep.DeepCutAuto
import Derived.Deep.CutBlock
namespace Go.Proofs.Ytelaiafpfaohfaa
open Go.RowKit
set_option linter.unusedSimpArgs false
set_option linter.unusedVariables false

set_option maxHeartbeats 25600000 in
set_option maxRecDepth 100000 in
theorem text_walk {w : World} {v v2 : Value} {text : List Int} {acts : List Actn} (ht : CharRd w (fun j => j < w.heap.size) v text) (hac : ActsRd w (fun j => j < w.heap.size) v2 acts) (hok : ActsOk acts) :
    Calls Try.prog 8 #[v, v2] w fun e w' => e = .returned (.bool true) ∧ Below w.heap.size w w' := by
  obtain ⟨p, c, rfl⟩ := Rd.slice ht
  obtain ⟨p2, c2, rfl⟩ : ∃ p c, v2 = .slice p acts.length c := by obtain ⟨_, hr, _⟩ := hac; exact Rd.slice hr
  have hlc : text.length ≤ c ∧ c ≤ maxLen := by obtain ⟨_, _, _, h, h1, h2, _⟩ := ht; injection h with _ _ h; subst h; exact ⟨h1, h2⟩
  have hla : acts.length ≤ maxLen := by obtain ⟨_, hr, _⟩ := hac; exact Rd.le hr
  unfold maxLen at hlc hla
  obtain ⟨tx, htx⟩ : ∃ x, text.take 300 = x := ⟨_, rfl⟩
  obtain ⟨hr0, hx300, hxl⟩ := take_own ht htx
  have hm : min (text.length : Int) 300 = (tx.length : Int) := by rw [← htx, List.length_take]; omega
  have hxc : (tx.length : Int) ≤ (c : Int) := by omega
  have H := Lib.hid hr0
  have Ha := Lib.hid hac
  have Hok := Lib.hid hok
  clear htx hr0 ht hac hok
  go_enter Try.func8, Try.ntmps8
  go_wp2_with fail
  refine (new_all H.out (by omega)).mono ?_
  rintro e w1 ⟨b, rfl, hb, htb, hX1⟩
  have HX1 := Lib.hid hX1
  have HT := Lib.hid (And.intro hb htb)
  clear hb htb hX1 hm
  go_wp2_with fail
  refine (slices_Clone_C (Rd.below H.out (by decide) HX1.out) (ccells_one tx) (by omega)).mono ?_
  rintro e w2 ⟨p3, c3, rfl, ho, hX2⟩
  have HTx := Lib.hid (Tx.new HT.out.1 HT.out.2 HX1.out (show CharOwn w2 w1.heap.size (.slice p3 tx.length c3) tx from ho) hX2 ((Tb.new_ok tx).mono hx300))
  have HX2 := Lib.hid (HX1.out.trans (hX2.mono HX1.out.size))
  clear ho hX2
  go_wp2_with fail
  go_loopw [6, 27] (fun rv i wr => ∃ (k n : Nat) (t : Tb) (p : Option Addr) (c : Nat), k ≤ acts.length ∧ k ≤ 60 ∧ rv = .slice p n c ∧ i = .int .i64 k ∧ Hid (n = t.long ∧ Tx w.heap.size wr b (.slice p n c) t (300 + 100 * k) ∧ Below w.heap.size w wr)) (fun _ i _ => acts.length - (intOf i).toNat)
  case atStart => exact ⟨0, _, _, _, _, Nat.zero_le _, Nat.zero_le _, rfl, rfl, Lib.hid ⟨rfl, HTx.out, HX2.out⟩⟩
  case round =>
    obtain ⟨k, n, t, p, c, hk, hk60, rfl, rfl, hR⟩ := hrel
    by_cases hlt : k < acts.length
    · obtain ⟨bk, off, qa, da, he, e0, e1, e2, e3, hq, hnil, hbd, hbd2, hacl⟩ := ActsRd.at_ (Ha.out.below hR.out.2.2) hlt
      subst he
      unfold maxLen at hbd2
      have hint := Hok.out acts[k] (List.getElem_mem hlt)
      generalize acts[k]'hlt = ac at *
      obtain ⟨what, pos, dn, l⟩ := ac
      simp only at e0 e1 e2 e3 hq hnil hbd hint
      by_cases h60 : k = 60
      · subst h60
        have hbA := (Below.refl wr.heap.size wr).alloc (Nat.le_refl _) (.cells #[.int .i64 what, .int .i64 pos, .int .i64 dn, .slice qa l.length da] 31)
        have HXB := Lib.hid (hR.out.2.2.trans (hbA.mono hR.out.2.2.size))
        clear hR hq hnil hint hbA
        go_wp2_with fail
        refine awake5.mono ?_
        rintro e w4 ⟨rfl, hX⟩
        have HX := Lib.hid (HXB.out.trans (hX.mono HXB.out.size))
        clear hX
        go_wp2_with fail
        go_ret
        exact ⟨rfl, HX.out⟩
      · obtain ⟨x, hx⟩ : ∃ x, l.take 100 = x := ⟨_, rfl⟩
        obtain ⟨hrx, hx100, hxl⟩ := take_own hq hx
        have hm : min (l.length : Int) 100 = (x.length : Int) := by rw [← hx, List.length_take]; omega
        have hxd : (x.length : Int) ≤ (da : Int) := by omega
        have HNx := Lib.hid (NilOk.front (k := x.length) hnil)
        have hbA := (Below.refl wr.heap.size wr).alloc (Nat.le_refl _) (.cells #[.int .i64 what, .int .i64 pos, .int .i64 dn, .slice qa x.length da] 31)
        have HTy := Lib.hid (hR.out.2.1.below hbA)
        have HXC := Lib.hid (hR.out.2.2.trans (hbA.mono hR.out.2.2.size))
        have HXr := Lib.hid (hrx.below hbA)
        have HAC := Lib.hid (Blk.new wr 31 #[.int .i64 what, .int .i64 pos, .int .i64 dn, .slice qa x.length da])
        have HAne := Lib.hid (show wr.heap.size ≠ b ∧ (Value.slice p n c).ownBlock ≠ some wr.heap.size from ⟨fun e => by have := hR.out.2.1.tb.lt; omega, fun e => by have := (hR.out.2.1.row.lt _ e).2; omega⟩)
        have hnl : n ≤ 300 + 100 * k := by rw [hR.out.1]; exact hR.out.2.1.ok.n
        have Hnl := Lib.hid hR.out.1
        have Hint := Lib.hid hint
        have hk6 : k < 60 := by omega
        clear hR hq hnil hrx hbA hint hx h60
        go_wp2_with fail
        refine (pieces_all HTy.out.tb HTy.out.ok (by omega)).mono ?_
        rintro e w3 ⟨v3, rfl, ho3, hX3⟩
        obtain ⟨q3, d3, rfl⟩ := own_slice ho3
        have HTx := Lib.hid (HTy.out.below hX3)
        have HXB := Lib.hid (HXC.out.trans (hX3.mono HXC.out.size))
        have HXq := Lib.hid (HXr.out.below hX3)
        have HAB := Lib.hid (HAC.out.below hX3)
        obtain ⟨c0, c1, c2', c3', -⟩ := HAB.out.c4
        have hpl : t.ps.length ≤ 10000 := by have := HTx.out.ok.pcs; omega
        obtain ⟨bef, hbef⟩ : ∃ m, m = t.ps.length := ⟨_, rfl⟩
        rw [← hbef] at hpl ⊢
        have Hbef := Lib.hid hbef
        have hb2 : IntKind.i64.wrap ((bef : Int) + 2) = ((bef + 2 : Nat) : Int) := by rw [IntKind.wrap_i64]; omega
        have hb1 : IntKind.i64.wrap ((bef : Int) + 1) = ((bef + 1 : Nat) : Int) := by rw [IntKind.wrap_i64]; omega
        clear ho3 hX3 hbef hm HTy HXC HXr HAC
        generalize wr.heap.size = A at HAne HAB c0 c1 c2' c3' ⊢
        go_upto_block 2 with fail

        have hSw : SwH w w3 b A n bef k da p qa c t what pos dn x := ⟨HTx.out, HXB.out, HXq.out, HNx.out, HAB.out, HAne.out, Hnl.out, Hbef.out, Hint.out, hk6, hx100⟩
        clear HTx HXB HXq HNx HAB HAne Hnl Hbef Hint c0 c1 c2' c3' hb1 hb2
        refine sw_all hSw ?_
        clear hSw
        intro u4 u6 u10 u11 u47 u48 u49 u50 u51 u52 u53 u54 u55 u56 u57 u58 u59 u60 u61 u62 u63 u64 u65 u66 u67 u68 u69 u70 u71 u72 u73 u74 u75 u76 u77 u78 u79 u80 u81 u82 u83 u84 u85 u86 u87 u88 u89 u90 u91 u92 u93 u94 u95 u96 u97 u98 u99 u100 u101 u102 u103 u104 u105 u106 u107 u108 u109 u110 u111 u112 u113 u114 u115 u116 u117 u118 u119 u120 u121 u122 u123 u124 u125 u126 u127 u128 u129 u130 u131 u132 u133 u134 u135 u136 u137 u138 u139 u140 wc hrel
        obtain ⟨n, t, p, c, rfl, hC⟩ := hrel
        have hnl2 : n ≤ 300 + 100 * (k + 1) := by rw [hC.out.1]; exact hC.out.2.1.ok.n
        go_wp2_with fail
        refine (pieces_all hC.out.2.1.tb hC.out.2.1.ok (by omega)).mono ?_
        rintro e w6 ⟨v6, rfl, ho6, hX6⟩
        obtain ⟨q6, d6, rfl⟩ := own_slice ho6
        have HO6 := Lib.hid ho6
        have HT6 := Lib.hid (hC.out.2.1.below hX6)
        have HX6 := Lib.hid (hC.out.2.2.trans (hX6.mono hC.out.2.2.size))
        clear ho6 hX6
        go_upto_block 3 with fail
        refine pcs_loop (PcsOwn.rd HO6.out) HT6.out.ok.lens HT6.out.ok.gaps (fun pc hpc => ?bb) (by rw [HT6.out.ok.tot]; have := HT6.out.ok.n; omega) (by have := HT6.out.ok.pcs; omega) (fun _ _ _ _ _ h => h) ?_
        case bb =>
          have h1 := HT6.out.ok.pin pc hpc
          have h2 := HT6.out.ok.f
          have h3 := HT6.out.ok.s
          split at h1 <;> omega
        intro u4 u14 u15 u145 u146 u147 u148 u149 u150 u151 u152 u153 u154 u155 u156 u157 u158 u159 u160 u161 u162 u163 u164 u165 u166 u167 u168 u169 u170 u171 u172 u173 u174 u175 u176 u177 u178 u179 u180 u181 u182 u183 u184 u185 u186 u187 u188 u189 u190 u191 u192 u193 u194 u195 wd hXd
        have HT7 := Lib.hid (HT6.out.below hXd)
        have HX7 := Lib.hid (HX6.out.trans (hXd.mono HX6.out.size))
        have htn : tot t.ps = n := by rw [HT6.out.ok.tot]; exact hC.out.1.symm
        rw [htn]
        have Hnt := Lib.hid (show t.long = n from hC.out.1.symm)
        clear hXd htn HO6
        generalize t.ps.length = l6
        go_wp2_with fail
        refine (text_all HT7.out.tb HT7.out.ok (by omega)).mono ?_
        rintro e w8 ⟨v8, rfl, ho8, hX8⟩
        have HX8 := Lib.hid (HX7.out.trans (hX8.mono HX7.out.size))
        have HT8 := Lib.hid (HT7.out.below hX8)
        have HE := Lib.hid (eq_chars (CharOwn.rd ho8) (CharOwn.rd HT8.out.row) (by rw [HT8.out.ok.text_len]; have := HT8.out.ok.n; omega))
        clear ho8 hX8
        go_wp2_with fail
        refine HE.out.mono ?_
        rintro e w9 ⟨rfl, hX9⟩
        have HX9 := Lib.hid (HX8.out.trans (hX9.mono HX8.out.size))
        have HT9 := Lib.hid (HT8.out.below hX9)
        clear hX9
        go_wp2_with fail
        refine (len_all HT9.out.tb).mono ?_
        rintro e wz ⟨rfl, rfl⟩
        rw [Hnt.out]
        go_wp2_with fail
        go_roundw
        case rel => exact ⟨k + 1, n, t, p, c, by omega, by omega, rfl, by go_num, Lib.hid ⟨Hnt.out.symm, HT9.out, HX9.out⟩⟩
        case measure => simp [intOf] <;> omega
    · have HX := Lib.hid hR.out.2.2
      have hke : k = acts.length := by omega
      clear hR
      subst hke
      go_wp2_with fail
      refine awake5.mono ?_
      rintro e w4 ⟨rfl, hX⟩
      have HXe := Lib.hid (HX.out.trans (hX.mono HX.out.size))
      clear hX
      go_wp2_with fail
      go_ret
      exact ⟨rfl, HXe.out⟩
end Go.Proofs.Ytelaiafpfaohfaa
