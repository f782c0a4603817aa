/-
  CmdBack's walk: it returns true. Condition: the table reads as the program lays it.
-/
import Derived.Test.YtciojggkcmdjiaaDoorLaw15
import Derived.Test.YtciojggkcmdjiaaDoorAwk15
import Derived.Test.YtciojggkcmdjiaaDoorSameC15
import Derived.LoopTactic
import Derived.Deep.DeepCutAuto
import Derived.Deep.CutBlock
namespace Go.Proofs.YtciojggkcmdjiaaDoor
open Go.RowKit
set_option linter.unusedSimpArgs false
set_option linter.unusedVariables false

theorem cmBytes_len {m : Cm} (hm : mayCm m = true) (hw : WfC m) : (cmBytes m).length ≤ 30000 := by
  obtain ⟨⟨k1, k2⟩, k3, k4, k5, ⟨k6, k7⟩, k8, k9, k10⟩ := mayCm_ok hm hw
  have hd := hw.doc
  have hr := hw.rev
  have u1 := Lib.uvarint_length64 (show m.kind.toNat < 18446744073709551616 by omega)
  have u2 := Lib.uvarint_length64 (show m.doc.toNat < 18446744073709551616 by omega)
  have u3 := Lib.uvarint_length64 (show m.rev.toNat < 18446744073709551616 by omega)
  have u4 := Lib.uvarint_length64 (show m.pos.toNat < 18446744073709551616 by omega)
  have u5 := Lib.uvarint_length64 (show m.name.length < 18446744073709551616 by omega)
  have u6 := Lib.uvarint_length64 (show m.us.length < 18446744073709551616 by omega)
  have u7 := flatUnits_len k10
  unfold cmBytes rowBytes lenBytes
  simp only [List.length_append]
  omega
theorem UtsRd.front_ {w : World} {S : Nat → Prop} {p : Option Addr} {c k : Nat} {us x : List Ut} (h : UtsRd w S (.slice p us.length c) us) (hx : us.take k = x) : UtsRd w S (.slice p x.length c) x ∧ x.length ≤ k ∧ x.length ≤ us.length := by
  subst hx
  rw [List.length_take]
  refine ⟨?_, by omega, by omega⟩
  obtain ⟨cs, hr, hE⟩ := h
  rcases Nat.le_total k us.length with hk | hk
  · rw [Nat.min_eq_left hk]
    exact ⟨cs.take (k * 5), by rw [List.length_take, Nat.min_eq_left hk]; exact Rd.front hr hk, hE.take k⟩
  · rw [Nat.min_eq_right hk, List.take_of_length_le hk]
    exact ⟨cs, hr, hE⟩
theorem CmdRd.front_ {w : World} {S : Nat → Prop} {p : Option Addr} {c k : Nat} {b x : List UInt8} (h : CmdRd w S (.slice p b.length c) b) (hx : b.take k = x) : CmdRd w S (.slice p x.length c) x ∧ x.length ≤ k ∧ x.length ≤ b.length := by
  subst hx
  rw [List.length_take]
  refine ⟨?_, by omega, by omega⟩
  rcases Nat.le_total k b.length with hk | hk
  · rw [Nat.min_eq_left hk]
    exact CmdRd.front h hk
  · rw [Nat.min_eq_right hk, List.take_of_length_le hk]
    exact h
set_option maxHeartbeats 12800000 in
set_option maxRecDepth 100000 in
theorem back_walk {w : World} {p q : Option Addr} {c d : Nat} {kind doc rev pos : Int} {name : List UInt8} {us : List Ut} {b : List UInt8} (hF : Forms w) (h : UtsRd w (fun j => j < w.heap.size) (.slice p us.length c) us) (hb : CmdRd w (fun j => j < w.heap.size) (.slice q b.length d) b) (hw : WfC ⟨kind, doc, name, rev, pos, us⟩) :
    Calls Tryd.prog 3 #[.agg #[.int .i64 kind, .int .u32 doc, .string ⟨name.toArray⟩, .int .u64 rev, .int .i64 pos, .slice p us.length c], .slice q b.length d] w fun x w' => x = .returned (.bool true) ∧ Below w.heap.size w w' := by
  obtain ⟨nm, hnm⟩ : ∃ x, name.take 100 = x := ⟨_, rfl⟩
  obtain ⟨vs, hvs⟩ : ∃ x, us.take 300 = x := ⟨_, rfl⟩
  obtain ⟨e, he⟩ : ∃ x, b.take 1000 = x := ⟨_, rfl⟩
  obtain ⟨hU, hv300, hvl⟩ := h.front_ hvs
  obtain ⟨hB, he1000, hel⟩ := hb.front_ he
  have hnl : nm.length ≤ 100 ∧ nm.length ≤ name.length := by rw [← hnm, List.length_take]; omega
  have Hw := Lib.hid (show WfC ⟨kind, doc, nm, rev, pos, vs⟩ from ⟨hw.doc, hw.rev, fun u hu => hw.us u (by
    have : u ∈ us.take 300 := by rw [hvs]; exact hu
    exact List.mem_of_mem_take this)⟩)
  have hcap : us.length ≤ c ∧ c ≤ maxLen := by obtain ⟨_, ⟨_, _, _, h, h1, h2, _⟩, _⟩ := h; injection h with _ _ h; subst h; exact ⟨h1, h2⟩
  have hcap2 : b.length ≤ d ∧ d ≤ maxLen := by obtain ⟨_, _, _, h, h1, h2, _⟩ := hb; injection h with _ _ h; subst h; exact ⟨h1, h2⟩
  unfold maxLen at hcap hcap2
  have Hnl := Lib.hid (show nm.length ≤ 1000000 by omega)
  have es : (ByteArray.mk name.toArray).size = name.length := by simp [ByteArray.size]
  have q1 : (if (100 : Int) < (name.length : Int) then (100 : Int) else (name.length : Int)) = (nm.length : Int) := by rw [← hnm, List.length_take]; split <;> omega
  have q2 : (if (300 : Int) < (us.length : Int) then (300 : Int) else (us.length : Int)) = (vs.length : Int) := by rw [← hvs, List.length_take]; split <;> omega
  have q3 : (if (1000 : Int) < (b.length : Int) then (1000 : Int) else (b.length : Int)) = (e.length : Int) := by rw [← he, List.length_take]; split <;> omega
  have q4 : (ByteArray.mk name.toArray).extract 0 nm.length = ByteArray.mk nm.toArray := by
    rw [← hnm]
    apply ByteArray.ext
    rw [ByteArray.data_extract]
    apply Array.ext'
    simp [List.length_take]
  have b1 : (nm.length : Int) ≤ (name.length : Int) := by omega
  have b2 : (vs.length : Int) ≤ (c : Int) := by omega
  have b3 : (e.length : Int) ≤ (d : Int) := by omega
  have hba := (Below.refl w.heap.size w).alloc (Nat.le_refl _) (.cells #[.int .i64 kind, .int .u32 doc, .string ⟨name.toArray⟩, .int .u64 rev, .int .i64 pos, .slice p us.length c] 26)
  have HK := Lib.hid (Blk.new w 26 #[.int .i64 kind, .int .u32 doc, .string ⟨name.toArray⟩, .int .u64 rev, .int .i64 pos, .slice p us.length c])
  have HB := Lib.hid hba
  have HU := Lib.hid hU
  have HBr := Lib.hid hB
  have HF := Lib.hid hF
  clear hF h hb hw hnm hvs he hU hB hnl hvl hel hcap hcap2 hba
  go_enter Tryd.func3, Tryd.ntmps3
  go_upto_region 1 with fail
  generalize w.alloc (.cells #[.int .i64 kind, .int .u32 doc, .string ⟨name.toArray⟩, .int .u64 rev, .int .i64 pos, .slice p us.length c] 26) = W1 at *
  obtain ⟨m0, m1, m2, m3, m4, m5, mf, hz⟩ := HK.out.c6
  have f2 := mf 2
  have f5 := mf 5
  clear mf
  go_region
  have hb2 : Below w.heap.size w (((W1.setCell ⟨w.heap.size, 2, none⟩ (.string ⟨nm.toArray⟩)).setCell ⟨w.heap.size, 5, none⟩ (.slice p vs.length c)).drew) := ((HB.out.setCell (p := ⟨w.heap.size, 2, none⟩) (Nat.le_refl _) _).setCell (p := ⟨w.heap.size, 5, none⟩) (Nat.le_refl _) _).drew
  have HK2 := Lib.hid (show Blk (((W1.setCell ⟨w.heap.size, 2, none⟩ (.string ⟨nm.toArray⟩)).setCell ⟨w.heap.size, 5, none⟩ (.slice p vs.length c)).drew) w.heap.size 26 #[.int .i64 kind, .int .u32 doc, .string ⟨nm.toArray⟩, .int .u64 rev, .int .i64 pos, .slice p vs.length c] from by
    have := (HK.out.set_ 2 (.string ⟨nm.toArray⟩)).set_ 5 (.slice p vs.length c)
    exact Blk.drew (by simpa using this))
  have HB2 := Lib.hid hb2
  clear hb2 m0 m1 m2 m3 m4 m5 hz f2 f5 q1 q2 q4 b1 b2 es HK HB
  generalize ((W1.setCell ⟨w.heap.size, 2, none⟩ (.string ⟨nm.toArray⟩)).setCell ⟨w.heap.size, 5, none⟩ (.slice p vs.length c)).drew = W2 at *
  have HU2 := Lib.hid (HU.out.below HB2.out)
  have HBr2 := Lib.hid (HBr.out.below HB2.out)
  have HF2 := Lib.hid (HF.out.below HB2.out)
  obtain ⟨m0, m1, m2, m3, m4, m5, -, hz⟩ := HK2.out.c6
  obtain ⟨r, hr⟩ : ∃ x, mayCm ⟨kind, doc, nm, rev, pos, vs⟩ = x := ⟨_, rfl⟩
  have Hr := Lib.hid hr
  clear hr
  have hnl : nm.length ≤ 1000000 := Hnl.out
  go_wp2_with fail
  refine (cmd_PutCmd HF2.out HU2.out (fun j hj => Nat.lt_of_lt_of_le hj HB2.out.size) (by omega) hnl Hw.out Hr.out).mono ?_
  rintro x w3 ⟨q1, d1, h1, h2, hb3⟩
  obtain ⟨bs, hbs⟩ : ∃ x, cmBytes ⟨kind, doc, nm, rev, pos, vs⟩ = x := ⟨_, rfl⟩
  rw [hbs] at h1
  have Hbs := Lib.hid hbs
  have HB3 := Lib.hid (HB2.out.trans (hb3.mono HB2.out.size))
  have HU3 := Lib.hid (HU2.out.below hb3)
  have HBr3 := Lib.hid (HBr2.out.below hb3)
  have HK3 := Lib.hid (HK2.out.below hb3)
  clear hbs hb3 m0 m1 m2 m3 m4 m5 hz q3 b3 HK2 HU2 HBr2 HF2
  obtain ⟨m0, m1, m2, m3, m4, m5, -, hz⟩ := HK3.out.c6
  cases r with
  | true =>
    obtain ⟨rfl, ho⟩ := h1 rfl
    have HO := Lib.hid ho
    have Hpp := Lib.hid (show pCmd bs = (⟨kind, doc, nm, rev, pos, vs⟩, 0) from by rw [← Hbs.out]; exact parse_put Hr.out Hw.out)
    have Hbl := Lib.hid (show bs.length ≤ 1000000 from by have := cmBytes_len Hr.out Hw.out; rw [Hbs.out] at this; omega)
    clear ho h1 h2
    go_wp2_with fail
    refine (cmd_ParseCmd (HF.out.below HB3.out) (CmdOwn.rd HO.out) Hbl.out).mono ?_
    rw [Hpp.out]
    rintro _ w4 ⟨q2, d2, rfl, hu, hb⟩
    have HB4 := Lib.hid (HB3.out.trans (hb.mono HB3.out.size))
    have HU4 := Lib.hid (HU3.out.below hb)
    have HD4 := Lib.hid hu
    have HBr4 := Lib.hid (HBr3.out.below hb)
    have hK4 := HK3.out.below hb
    clear m0 m1 m2 m3 m4 m5 hz
    obtain ⟨m0, m1, m2, m3, m4, m5, -, hz⟩ := hK4.c6
    clear hu hb HU3 HBr3 hK4 HK3 HB3
    simp only
    go_wp2_with fail
    have hba := (Below.refl w4.heap.size w4).alloc (Nat.le_refl _) (.cells #[.int .i64 kind, .int .u32 doc, .string ⟨nm.toArray⟩, .int .u64 rev, .int .i64 pos, .slice q2 vs.length d2] 26)
    have HB4b := Lib.hid (HB4.out.trans (hba.mono HB4.out.size))
    have HBr4b := Lib.hid (HBr4.out.below hba)
    have HU4b := Lib.hid (And.intro (HU4.out.below hba) (UtsRd.below (UtsOwn.rd HD4.out) hba))
    clear hba HB4 HBr4 HU4 HD4
    refine (cmd_SameCmd HU4b.out.1 HU4b.out.2 (by omega)).mono ?_
    rintro _ w5 ⟨rfl, hb⟩
    have HB5 := Lib.hid (HB4b.out.trans (hb.mono HB4b.out.size))
    have HBr5 := Lib.hid (HBr4b.out.below hb)
    clear hb HB4b HBr4b HU4b m0 m1 m2 m3 m4 m5 hz
    go_wp2_with fail
    by_cases he9 : (psEnd e).e = 0
    · obtain ⟨hm, hwc, hcb⟩ := put_parse he9
      have hpc : pCmd e = (psCm e, 0) := by unfold pCmd; rw [if_pos he9]
      obtain ⟨mc, hmc⟩ : ∃ x, psCm e = x := ⟨_, rfl⟩
      rw [hmc] at hm hwc hcb hpc
      have hlu : mc.us.length ≤ 256 := (mayCm_ok hm hwc).2.2.2.2.2.2.1
      have hln : mc.name.length ≤ 64 := (mayCm_ok hm hwc).2.1
      have hkk := (mayCm_ok hm hwc).1
      obtain ⟨mk, md, mn, mr, mp, mu⟩ := mc
      have Hlu := Lib.hid (show mu.length ≤ 1000000 from by have : mu.length ≤ 256 := hlu; omega)
      have Hln := Lib.hid (show mn.length ≤ 1000000 from by have : mn.length ≤ 64 := hln; omega)
      have Hkk := Lib.hid (show 1 ≤ mk ∧ mk ≤ 9 from hkk)
      have Hm := Lib.hid hm
      have Hwc := Lib.hid hwc
      have Hcb := Lib.hid hcb
      have Hpc := Lib.hid hpc
      clear hm hwc hcb hpc hmc hlu hln hkk he9
      refine (cmd_ParseCmd (HF.out.below HB5.out) HBr5.out (by omega)).mono ?_
      rw [Hpc.out]
      rintro _ w6 ⟨q3, d3, rfl, hu, hb⟩
      have HB6 := Lib.hid (HB5.out.trans (hb.mono HB5.out.size))
      have HBr6 := Lib.hid (HBr5.out.below hb)
      have HU6 := Lib.hid (show UtsOwn w6 w5.heap.size (.slice q3 mu.length d3) mu from hu)
      clear hu hb HB5 HBr5
      simp only
      go_wp2_with fail
      have hba := (Below.refl w6.heap.size w6).alloc (Nat.le_refl _) (.cells #[.int .i64 mk, .int .u32 md, .string ⟨mn.toArray⟩, .int .u64 mr, .int .i64 mp, .slice q3 mu.length d3] 26)
      have HB7 := Lib.hid (HB6.out.trans (hba.mono HB6.out.size))
      have HBr7 := Lib.hid (HBr6.out.below hba)
      have HU7 := Lib.hid (UtsRd.below (UtsOwn.rd HU6.out) hba)
      have HK7 := Lib.hid (Blk.new w6 26 #[.int .i64 mk, .int .u32 md, .string ⟨mn.toArray⟩, .int .u64 mr, .int .i64 mp, .slice q3 mu.length d3])
      have Hsz := Lib.hid hba.size
      clear hba HB6 HBr6 HU6
      refine (cmd_PutCmd (HF.out.below HB7.out) HU7.out (fun j hj => Nat.lt_of_lt_of_le hj.2 Hsz.out) Hlu.out Hln.out Hwc.out Hm.out).mono ?_
      rintro x w8 ⟨q4, d4, h1, -, hb⟩
      obtain ⟨rfl, ho⟩ := h1 rfl
      rw [Hcb.out] at ho ⊢
      have HB8 := Lib.hid (HB7.out.trans (hb.mono HB7.out.size))
      have HBr8 := Lib.hid (HBr7.out.below hb)
      have HK8 := Lib.hid (HK7.out.below hb)
      have HO8 := Lib.hid ho
      clear h1 ho hb HB7 HBr7 HU7 HK7
      go_wp2_with fail
      refine (awake_true (HF.out.below HB8.out)).mono ?_
      rintro _ w9 ⟨rfl, hb⟩
      have HB9 := Lib.hid (HB8.out.trans (hb.mono HB8.out.size))
      have HBr9 := Lib.hid (HBr8.out.below hb)
      have HO9 := Lib.hid (HO8.out.below hb)
      have hK9 := HK8.out.below hb
      have z0 := hK9.cell 0
      have zz := hK9.lt
      simp only [List.getElem?_toArray, List.getElem?_cons_zero] at z0
      clear hb HB8 HBr8 HO8 HK8 hK9
      go_wp2_with fail
      refine (bytes_Equal (CmdOwn.rd HO9.out) HBr9.out).mono ?_
      rintro _ _ ⟨rfl, hww⟩
      subst hww
      have e1 : decide (1 ≤ mk) = true := decide_eq_true Hkk.out.1
      have e2 : decide (mk ≤ 9) = true := decide_eq_true Hkk.out.2
      rw [beq_self_eq_true]
      go_wp2_with fail
      go_ret
      exact ⟨rfl, HB9.out⟩
    · have Hpc := Lib.hid (show pCmd e = (zeroCm, (psEnd e).e) from by unfold pCmd; rw [if_neg he9])
      obtain ⟨er, her⟩ : ∃ x, (psEnd e).e = x := ⟨_, rfl⟩
      rw [her] at Hpc he9
      have der : (er != (0 : Int)) = true := by simpa using he9
      clear her he9
      refine (cmd_ParseCmd (HF.out.below HB5.out) HBr5.out (by omega)).mono ?_
      rw [Hpc.out]
      rintro _ w6 ⟨q3, d3, rfl, hu, hb⟩
      have HB6 := Lib.hid (HB5.out.trans (hb.mono HB5.out.size))
      have HU6 := Lib.hid (show UtsOwn w6 w5.heap.size (.slice q3 0 d3) [] from hu)
      clear hu hb HB5 HBr5
      simp only [zeroCm, List.length_nil]
      go_wp2_with fail
      have hba := (Below.refl w6.heap.size w6).alloc (Nat.le_refl _) (.cells #[.int .i64 0, .int .u32 0, .string ⟨#[]⟩, .int .u64 0, .int .i64 0, .slice q3 0 d3] 26)
      have HB7 := Lib.hid (HB6.out.trans (hba.mono HB6.out.size))
      have HU7 := Lib.hid (UtsRd.below (UtsOwn.rd HU6.out) hba)
      have HK7 := Lib.hid (Blk.new w6 26 #[.int .i64 0, .int .u32 0, .string ⟨#[]⟩, .int .u64 0, .int .i64 0, .slice q3 0 d3])
      clear hba HB6 HU6
      refine (awake_true (HF.out.below HB7.out)).mono ?_
      rintro _ w8 ⟨rfl, hb⟩
      have HB8 := Lib.hid (HB7.out.trans (hb.mono HB7.out.size))
      have HU8 := Lib.hid (HU7.out.below hb)
      obtain ⟨z0, z1, z2, z3, z4, z5, -, zz⟩ := (HK7.out.below hb).c6
      clear hb HB7 HU7 HK7
      go_wp2_with fail
      refine (cmd_SameCmd (name := []) (us := []) HU8.out (uts_nil w8) (by decide)).mono ?_
      rintro _ w9 ⟨rfl, hb⟩
      have HB9 := Lib.hid (HB8.out.trans (hb.mono HB8.out.size))
      clear hb
      go_wp2_with fail
      go_ret
      exact ⟨rfl, HB9.out⟩
  | false =>
    obtain rfl := h2 rfl
    clear h1 h2
    go_wp2_with fail
    by_cases he9 : (psEnd e).e = 0
    · obtain ⟨hm, hwc, hcb⟩ := put_parse he9
      have hpc : pCmd e = (psCm e, 0) := by unfold pCmd; rw [if_pos he9]
      obtain ⟨mc, hmc⟩ : ∃ x, psCm e = x := ⟨_, rfl⟩
      rw [hmc] at hm hwc hcb hpc
      have hlu : mc.us.length ≤ 256 := (mayCm_ok hm hwc).2.2.2.2.2.2.1
      have hln : mc.name.length ≤ 64 := (mayCm_ok hm hwc).2.1
      have hkk := (mayCm_ok hm hwc).1
      obtain ⟨mk, md, mn, mr, mp, mu⟩ := mc
      have Hlu := Lib.hid (show mu.length ≤ 1000000 from by have : mu.length ≤ 256 := hlu; omega)
      have Hln := Lib.hid (show mn.length ≤ 1000000 from by have : mn.length ≤ 64 := hln; omega)
      have Hkk := Lib.hid (show 1 ≤ mk ∧ mk ≤ 9 from hkk)
      have Hm := Lib.hid hm
      have Hwc := Lib.hid hwc
      have Hcb := Lib.hid hcb
      have Hpc := Lib.hid hpc
      clear hm hwc hcb hpc hmc hlu hln hkk he9
      refine (cmd_ParseCmd (HF.out.below HB3.out) HBr3.out (by omega)).mono ?_
      rw [Hpc.out]
      rintro _ w6 ⟨q3, d3, rfl, hu, hb⟩
      have HB6 := Lib.hid (HB3.out.trans (hb.mono HB3.out.size))
      have HBr6 := Lib.hid (HBr3.out.below hb)
      have HU6 := Lib.hid (show UtsOwn w6 w3.heap.size (.slice q3 mu.length d3) mu from hu)
      clear hu hb HB3 HBr3
      simp only
      go_wp2_with fail
      have hba := (Below.refl w6.heap.size w6).alloc (Nat.le_refl _) (.cells #[.int .i64 mk, .int .u32 md, .string ⟨mn.toArray⟩, .int .u64 mr, .int .i64 mp, .slice q3 mu.length d3] 26)
      have HB7 := Lib.hid (HB6.out.trans (hba.mono HB6.out.size))
      have HBr7 := Lib.hid (HBr6.out.below hba)
      have HU7 := Lib.hid (UtsRd.below (UtsOwn.rd HU6.out) hba)
      have HK7 := Lib.hid (Blk.new w6 26 #[.int .i64 mk, .int .u32 md, .string ⟨mn.toArray⟩, .int .u64 mr, .int .i64 mp, .slice q3 mu.length d3])
      have Hsz := Lib.hid hba.size
      clear hba HB6 HBr6 HU6
      refine (cmd_PutCmd (HF.out.below HB7.out) HU7.out (fun j hj => Nat.lt_of_lt_of_le hj.2 Hsz.out) Hlu.out Hln.out Hwc.out Hm.out).mono ?_
      rintro x w8 ⟨q4, d4, h1, -, hb⟩
      obtain ⟨rfl, ho⟩ := h1 rfl
      rw [Hcb.out] at ho ⊢
      have HB8 := Lib.hid (HB7.out.trans (hb.mono HB7.out.size))
      have HBr8 := Lib.hid (HBr7.out.below hb)
      have HK8 := Lib.hid (HK7.out.below hb)
      have HO8 := Lib.hid ho
      clear h1 ho hb HB7 HBr7 HU7 HK7
      go_wp2_with fail
      refine (awake_true (HF.out.below HB8.out)).mono ?_
      rintro _ w9 ⟨rfl, hb⟩
      have HB9 := Lib.hid (HB8.out.trans (hb.mono HB8.out.size))
      have HBr9 := Lib.hid (HBr8.out.below hb)
      have HO9 := Lib.hid (HO8.out.below hb)
      have hK9 := HK8.out.below hb
      have z0 := hK9.cell 0
      have zz := hK9.lt
      simp only [List.getElem?_toArray, List.getElem?_cons_zero] at z0
      clear hb HB8 HBr8 HO8 HK8 hK9
      go_wp2_with fail
      refine (bytes_Equal (CmdOwn.rd HO9.out) HBr9.out).mono ?_
      rintro _ _ ⟨rfl, hww⟩
      subst hww
      have e1 : decide (1 ≤ mk) = true := decide_eq_true Hkk.out.1
      have e2 : decide (mk ≤ 9) = true := decide_eq_true Hkk.out.2
      rw [beq_self_eq_true]
      go_wp2_with fail
      go_ret
      exact ⟨rfl, HB9.out⟩
    · have Hpc := Lib.hid (show pCmd e = (zeroCm, (psEnd e).e) from by unfold pCmd; rw [if_neg he9])
      obtain ⟨er, her⟩ : ∃ x, (psEnd e).e = x := ⟨_, rfl⟩
      rw [her] at Hpc he9
      have der : (er != (0 : Int)) = true := by simpa using he9
      clear her he9
      refine (cmd_ParseCmd (HF.out.below HB3.out) HBr3.out (by omega)).mono ?_
      rw [Hpc.out]
      rintro _ w6 ⟨q3, d3, rfl, hu, hb⟩
      have HB6 := Lib.hid (HB3.out.trans (hb.mono HB3.out.size))
      have HU6 := Lib.hid (show UtsOwn w6 w3.heap.size (.slice q3 0 d3) [] from hu)
      clear hu hb HB3 HBr3
      simp only [zeroCm, List.length_nil]
      go_wp2_with fail
      have hba := (Below.refl w6.heap.size w6).alloc (Nat.le_refl _) (.cells #[.int .i64 0, .int .u32 0, .string ⟨#[]⟩, .int .u64 0, .int .i64 0, .slice q3 0 d3] 26)
      have HB7 := Lib.hid (HB6.out.trans (hba.mono HB6.out.size))
      have HU7 := Lib.hid (UtsRd.below (UtsOwn.rd HU6.out) hba)
      have HK7 := Lib.hid (Blk.new w6 26 #[.int .i64 0, .int .u32 0, .string ⟨#[]⟩, .int .u64 0, .int .i64 0, .slice q3 0 d3])
      clear hba HB6 HU6
      refine (awake_true (HF.out.below HB7.out)).mono ?_
      rintro _ w8 ⟨rfl, hb⟩
      have HB8 := Lib.hid (HB7.out.trans (hb.mono HB7.out.size))
      have HU8 := Lib.hid (HU7.out.below hb)
      obtain ⟨z0, z1, z2, z3, z4, z5, -, zz⟩ := (HK7.out.below hb).c6
      clear hb HB7 HU7 HK7
      go_wp2_with fail
      refine (cmd_SameCmd (name := []) (us := []) HU8.out (uts_nil w8) (by decide)).mono ?_
      rintro _ w9 ⟨rfl, hb⟩
      have HB9 := Lib.hid (HB8.out.trans (hb.mono HB8.out.size))
      clear hb
      go_wp2_with fail
      go_ret
      exact ⟨rfl, HB9.out⟩
end Go.Proofs.YtciojggkcmdjiaaDoor
