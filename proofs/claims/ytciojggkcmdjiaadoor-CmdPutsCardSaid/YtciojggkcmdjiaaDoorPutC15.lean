/-
  cmd.PutCmd: its contract.
-/
import Derived.Test.YtciojggkcmdjiaaDoorMay15
namespace Go.Proofs.YtciojggkcmdjiaaDoor
open Go.RowKit
set_option linter.unusedSimpArgs false
set_option linter.unusedVariables false

def cmBytes (m : Cm) : List UInt8 := Lib.uvarint m.kind.toNat ++ Lib.uvarint m.doc.toNat ++ lenBytes m.name ++ Lib.uvarint m.rev.toNat ++ Lib.uvarint m.pos.toNat ++ rowBytes m.us
/-- The numbers are of their kinds. -/
structure WfU (u : Ut) : Prop where
  cl : 0 ≤ u.cl ∧ u.cl ≤ 4294967295
  rq : 0 ≤ u.rq ∧ u.rq ≤ 18446744073709551615
structure WfC (m : Cm) : Prop where
  doc : 0 ≤ m.doc ∧ m.doc ≤ 4294967295
  rev : 0 ≤ m.rev
  us : ∀ u ∈ m.us, WfU u
theorem okU_of {u : Ut} (hw : WfU u) (h : badU u = false) : OkU u := by
  unfold badU at h
  simp only [Bool.or_eq_false_iff, Bool.not_eq_false'] at h
  obtain ⟨h1, h2⟩ := h
  unfold farB at h2
  simp only [Bool.and_eq_true, decide_eq_true_eq] at h2
  unfold mayU at h1
  split at h1
  · rename_i hk
    simp only [Bool.and_eq_true, decide_eq_true_eq] at h1
    exact ⟨by omega, h2, by omega, hw.cl, hw.rq⟩
  · split at h1
    · rename_i hk
      unfold mayC at h1
      simp only [Bool.and_eq_true, Bool.or_eq_true, decide_eq_true_eq] at h1
      exact ⟨by omega, h2, by omega, hw.cl, hw.rq⟩
    · cases h1
theorem rowB_ok {us : List Ut} (h : rowB us = true) (hw : ∀ u ∈ us, WfU u) : us.length ≤ 256 ∧ ∀ u ∈ us, OkU u := by
  unfold rowB at h
  simp only [Bool.and_eq_true, decide_eq_true_eq, Bool.not_eq_true'] at h
  exact ⟨h.1, fun u hu => okU_of (hw u hu) (by
    have := List.any_eq_false.1 h.2 u hu
    simpa using this)⟩
theorem mayCm_ok {m : Cm} (h : mayCm m = true) (hw : WfC m) : (1 ≤ m.kind ∧ m.kind ≤ 9) ∧ m.name.length ≤ 64 ∧ decB m.name = 0 ∧ m.rev ≤ 1099511627776 ∧ (0 ≤ m.pos ∧ m.pos ≤ 2147483648) ∧ rowB m.us = true ∧ m.us.length ≤ 256 ∧ ∀ u ∈ m.us, OkU u := by
  unfold mayCm farB at h
  simp only [Bool.and_eq_true, decide_eq_true_eq] at h
  obtain ⟨h1, h2, h3, h4, h5, h6, h7⟩ := h
  have := rowB_ok h7 hw.us
  exact ⟨⟨h1, h2⟩, h3, h4, h5, h6, h7, this⟩
theorem wr_StrAny {w : World} {a : Nat} {bs b : List UInt8} (h : WrAny w a bs) (hb : bs.length + b.length + 10 ≤ 140737488355328) :
    Calls Tryd.prog 20 #[.pointer (some ⟨a, 0, none⟩), .string ⟨b.toArray⟩] w fun e w' => e = .returned (.tuple #[]) ∧ WrAny w' a (bs ++ lenBytes b) ∧ Ext (· = a) w w' := by
  obtain ⟨lo, hi, h⟩ := h
  exact (wr_Str h hb).mono fun e w' ⟨h1, h2, h3⟩ => ⟨h1, ⟨_, _, h2⟩, h3⟩
theorem wr_OutAny {w : World} {a : Nat} {bs : List UInt8} (h : WrAny w a bs) (hb : bs.length ≤ 140737488355328) :
    Calls Tryd.prog 22 #[.pointer (some ⟨a, 0, none⟩)] w fun e w' => ∃ p c, e = .returned (.slice p bs.length c) ∧ CmdOwn w' w.heap.size (.slice p bs.length c) bs ∧ Below w.heap.size w w' := by
  obtain ⟨lo, hi, h⟩ := h
  exact wr_Out h hb
theorem WrAny.below {w w' : World} {a : Nat} {bs : List UInt8} (h : WrAny w a bs) (hb : Below w.heap.size w w') : WrAny w' a bs := by
  obtain ⟨lo, hi, h⟩ := h
  exact ⟨lo, hi, h.below hb⟩
theorem WrAny.new (w : World) : WrAny (w.alloc (.cells #[.slice none 0 0] 59)) w.heap.size [] := ⟨0, 0, _, Blk.new w _ _, OwnIn.nil _ _ _⟩
/-- What PutCmd tells. -/
def PutR (w w' : World) (bs : List UInt8) (r : Bool) (x : Ending) : Prop := ∃ q d, (r = true → x = .returned (.tuple #[.slice q bs.length d, .int .i64 0]) ∧ CmdOwn w' w.heap.size (.slice q bs.length d) bs) ∧ (r = false → x = .returned (.tuple #[.slice none 0 0, .int .i64 1])) ∧ Below w.heap.size w w'
set_option maxHeartbeats 6400000 in
set_option maxRecDepth 100000 in
theorem cmd_PutCmd {w : World} {S : Nat → Prop} {p : Option Addr} {c : Nat} {kind doc rev pos : Int} {name : List UInt8} {us : List Ut} (hF : Forms w) (h : UtsRd w S (.slice p us.length c) us) (hS : ∀ j, S j → j < w.heap.size) (hl : us.length ≤ 1000000) (hn : name.length ≤ 1000000) (hw : WfC ⟨kind, doc, name, rev, pos, us⟩) {r : Bool} (hr : mayCm ⟨kind, doc, name, rev, pos, us⟩ = r) :
    Calls Tryd.prog 5 #[.agg #[.int .i64 kind, .int .u32 doc, .string ⟨name.toArray⟩, .int .u64 rev, .int .i64 pos, .slice p us.length c]] w fun x w' => PutR w w' (cmBytes ⟨kind, doc, name, rev, pos, us⟩) r x := by
  have hb := (Below.refl w.heap.size w).alloc (Nat.le_refl _) (.cells #[.int .i64 kind, .int .u32 doc, .string ⟨name.toArray⟩, .int .u64 rev, .int .i64 pos, .slice p us.length c] 26)
  have HF := Lib.hid (hF.below hb)
  have H := Lib.hid (h.below hb)
  have HK := Lib.hid (Blk.new w 26 #[.int .i64 kind, .int .u32 doc, .string ⟨name.toArray⟩, .int .u64 rev, .int .i64 pos, .slice p us.length c])
  have HB := Lib.hid hb
  have HS := Lib.hid hS
  have Hw := Lib.hid hw
  have Hr := Lib.hid hr
  obtain ⟨bs, hbs⟩ : ∃ x, cmBytes ⟨kind, doc, name, rev, pos, us⟩ = x := ⟨_, rfl⟩
  rw [hbs]
  have Hbs := Lib.hid hbs
  clear hF h hb hS hw hbs hr
  go_enter Tryd.func5, Tryd.ntmps5
  go_wp2_with fail
  generalize w.alloc (.cells #[.int .i64 kind, .int .u32 doc, .string ⟨name.toArray⟩, .int .u64 rev, .int .i64 pos, .slice p us.length c] 26) = W1 at *
  refine (cmd_mayCmd HF.out H.out hl hn).mono ?_
  rw [Hr.out]
  rintro _ w2 ⟨rfl, hb2⟩
  have H2 := Lib.hid (H.out.below hb2)
  have HK2 := Lib.hid (HK.out.below hb2)
  have HB2 := Lib.hid (HB.out.trans (hb2.mono HB.out.size))
  have Hz := Lib.hid (show w.heap.size < w2.heap.size from Nat.lt_of_lt_of_le HK.out.lt hb2.size)
  clear hb2 HF H HK HB
  cases r with
  | false =>
    go_wp2_with fail
    go_ret2
    exact ⟨none, 0, fun h => (by cases h), fun _ => rfl, HB2.out⟩
  | true =>
    obtain ⟨⟨k1, k2⟩, k3, -, k5, ⟨k6, k7⟩, -, k8, k9⟩ := mayCm_ok Hr.out Hw.out
    simp only at k1 k2 k3 k5 k6 k7 k8 k9
    have hwd := Hw.out.doc
    have hwr := Hw.out.rev
    simp only at hwd hwr
    obtain ⟨kn, rfl⟩ := Int.eq_ofNat_of_zero_le (show 0 ≤ kind by omega)
    obtain ⟨dn, rfl⟩ := Int.eq_ofNat_of_zero_le hwd.1
    obtain ⟨rn, rfl⟩ := Int.eq_ofNat_of_zero_le hwr
    obtain ⟨pn, rfl⟩ := Int.eq_ofNat_of_zero_le k6
    have c1 : IntKind.u64.wrap (kn : Int) = kn := IntWalk.u64_in _ (by omega)
    have c2 : IntKind.u64.wrap (dn : Int) = dn := IntWalk.u64_in _ (by omega)
    have c3 : IntKind.u64.wrap (pn : Int) = pn := IntWalk.u64_in _ (by omega)
    have Hkn := Lib.hid (show kn < 18446744073709551616 by omega)
    have Hdn := Lib.hid (show dn < 18446744073709551616 by omega)
    have Hrn := Lib.hid (show rn < 18446744073709551616 by omega)
    have Hpn := Lib.hid (show pn < 18446744073709551616 by omega)
    have Hk3 := Lib.hid k3
    have Hok := Lib.hid k9
    have ub : ∀ {n : Nat}, n < 18446744073709551616 → (Lib.uvarint n).length ≤ 10 := fun h => Lib.uvarint_length64 h
    have Hub := Lib.hid (show (Lib.uvarint kn).length ≤ 10 ∧ (Lib.uvarint dn).length ≤ 10 ∧ (Lib.uvarint rn).length ≤ 10 ∧ (Lib.uvarint pn).length ≤ 10 ∧ (lenBytes name).length ≤ 100 from ⟨ub Hkn.out, ub Hdn.out, ub Hrn.out, ub Hpn.out, by
      unfold lenBytes
      have := ub (show name.length < 18446744073709551616 by omega)
      rw [List.length_append]
      omega⟩)
    have Hro := Lib.hid (show (rowBytes us).length ≤ 20000 from by
      unfold rowBytes
      have h1 := ub (show us.length < 18446744073709551616 by omega)
      have h2 := flatUnits_len k9
      rw [List.length_append]
      omega)
    clear k1 k2 k3 k5 k6 k7 k8 k9 hwd hwr ub Hr Hw
    obtain ⟨m0, m1, m2, m3, m4, m5, -, hz⟩ := HK2.out.c6
    go_wp2_with fail
    have hba := (Below.refl w2.heap.size w2).alloc (Nat.le_refl _) (.cells #[.slice none 0 0] 59)
    have HW0 := Lib.hid (WrAny.new w2)
    have HK3 := Lib.hid (HK2.out.below hba)
    have H3 := Lib.hid (H2.out.below hba)
    have HB3 := Lib.hid (HB2.out.trans (hba.mono HB2.out.size))
    have Hne := Lib.hid (show w.heap.size ≠ w2.heap.size by have := Hz.out; omega)
    have HSa := Lib.hid (show ¬ S w2.heap.size from fun h => by have := HS.out _ h; have := Hz.out; omega)
    have Haw := Lib.hid (show w.heap.size ≤ w2.heap.size from Nat.le_of_lt Hz.out)
    clear hba HK2 H2 HB2 Hz
    generalize w2.alloc (.cells #[.slice none 0 0] 59) = W3 at *
    generalize w2.heap.size = a at *
    refine (wr_Any HW0.out Hkn.out (by simp)).mono ?_
    rintro _ w4 ⟨rfl, hw, hE⟩
    obtain ⟨b1, hb1⟩ : ∃ x, [] ++ Lib.uvarint kn = x := ⟨_, rfl⟩
    rw [hb1] at hw
    have HW1 := Lib.hid hw
    have HE1 := Lib.hid (hE)
    have Hl1 := Lib.hid (show b1.length ≤ 1 * 100 from by have h1 := Hub.out; rw [← hb1]; simp only [List.length_append, List.length_nil]; omega)
    have Hb1 := Lib.hid hb1
    have hK := HK3.out.ext HE1.out Hne.out
    clear hw hE hb1 HW0 m0 m1 m2 m3 m4 m5 hz
    obtain ⟨m0, m1, m2, m3, m4, m5, -, hz⟩ := hK.c6
    clear hK
    go_wp2_with fail
    refine (wr_Any HW1.out Hdn.out (by have := Hl1.out; omega)).mono ?_
    rintro _ w5 ⟨rfl, hw, hE⟩
    obtain ⟨b2, hb2⟩ : ∃ x, b1 ++ Lib.uvarint dn = x := ⟨_, rfl⟩
    rw [hb2] at hw
    have HW2 := Lib.hid hw
    have HE2 := Lib.hid (HE1.out.trans hE)
    have Hl2 := Lib.hid (show b2.length ≤ 2 * 100 from by have h1 := Hub.out; have h0 := Hl1.out; rw [← hb2]; simp only [List.length_append, List.length_nil]; omega)
    have Hb2 := Lib.hid hb2
    have hK := HK3.out.ext HE2.out Hne.out
    clear hw hE hb2 HW1 HE1 m0 m1 m2 m3 m4 m5 hz
    obtain ⟨m0, m1, m2, m3, m4, m5, -, hz⟩ := hK.c6
    clear hK
    go_wp2_with fail
    refine (wr_StrAny HW2.out (by have := Hl2.out; have := Hk3.out; omega)).mono ?_
    rintro _ w6 ⟨rfl, hw, hE⟩
    obtain ⟨b3, hb3⟩ : ∃ x, b2 ++ lenBytes name = x := ⟨_, rfl⟩
    rw [hb3] at hw
    have HW3 := Lib.hid hw
    have HE3 := Lib.hid (HE2.out.trans hE)
    have Hl3 := Lib.hid (show b3.length ≤ 3 * 100 from by have h1 := Hub.out; have h0 := Hl2.out; rw [← hb3]; simp only [List.length_append, List.length_nil]; omega)
    have Hb3 := Lib.hid hb3
    have hK := HK3.out.ext HE3.out Hne.out
    clear hw hE hb3 HW2 HE2 m0 m1 m2 m3 m4 m5 hz
    obtain ⟨m0, m1, m2, m3, m4, m5, -, hz⟩ := hK.c6
    clear hK
    go_wp2_with fail
    refine (wr_Any HW3.out Hrn.out (by have := Hl3.out; omega)).mono ?_
    rintro _ w7 ⟨rfl, hw, hE⟩
    obtain ⟨b4, hb4⟩ : ∃ x, b3 ++ Lib.uvarint rn = x := ⟨_, rfl⟩
    rw [hb4] at hw
    have HW4 := Lib.hid hw
    have HE4 := Lib.hid (HE3.out.trans hE)
    have Hl4 := Lib.hid (show b4.length ≤ 4 * 100 from by have h1 := Hub.out; have h0 := Hl3.out; rw [← hb4]; simp only [List.length_append, List.length_nil]; omega)
    have Hb4 := Lib.hid hb4
    have hK := HK3.out.ext HE4.out Hne.out
    clear hw hE hb4 HW3 HE3 m0 m1 m2 m3 m4 m5 hz
    obtain ⟨m0, m1, m2, m3, m4, m5, -, hz⟩ := hK.c6
    clear hK
    go_wp2_with fail
    refine (wr_Any HW4.out Hpn.out (by have := Hl4.out; omega)).mono ?_
    rintro _ w8 ⟨rfl, hw, hE⟩
    obtain ⟨b5, hb5⟩ : ∃ x, b4 ++ Lib.uvarint pn = x := ⟨_, rfl⟩
    rw [hb5] at hw
    have HW5 := Lib.hid hw
    have HE5 := Lib.hid (HE4.out.trans hE)
    have Hl5 := Lib.hid (show b5.length ≤ 5 * 100 from by have h1 := Hub.out; have h0 := Hl4.out; rw [← hb5]; simp only [List.length_append, List.length_nil]; omega)
    have Hb5 := Lib.hid hb5
    have hK := HK3.out.ext HE5.out Hne.out
    clear hw hE hb5 HW4 HE4 m0 m1 m2 m3 m4 m5 hz
    obtain ⟨m0, m1, m2, m3, m4, m5, -, hz⟩ := hK.c6
    clear hK
    go_wp2_with fail
    have H8 := Lib.hid (H3.out.keep (S' := S) (fun j hj hSj => HE5.out.block j hj (fun e => HSa.out (e ▸ hSj))) (fun _ h _ => h))
    refine (weave_Write HW5.out H8.out HSa.out Hok.out hl (by have := Hl5.out; omega)).mono ?_
    rintro _ w9 ⟨rfl, hw, hE⟩
    have hfin : b5 ++ rowBytes us = bs := by
      rw [← Hbs.out, ← Hb5.out, ← Hb4.out, ← Hb3.out, ← Hb2.out, ← Hb1.out]
      rfl
    rw [hfin] at hw
    have Hlb := Lib.hid (show bs.length ≤ 140737488355328 from by have h0 := Hl5.out; have h1 := Hro.out; rw [← hfin, List.length_append]; omega)
    have HW9 := Lib.hid hw
    have HB9 := Lib.hid (Ext.from HB3.out (HE5.out.trans hE) (fun j hj => by have := Haw.out; omega))
    clear hw hE hfin HW5 HE5 H8 m0 m1 m2 m3 m4 m5 hz
    go_wp2_with fail
    refine (wr_OutAny HW9.out Hlb.out).mono ?_
    rintro _ w10 ⟨q, d, rfl, ho, hb⟩
    have HO := Lib.hid (ho.base HB9.out.size)
    have HB10 := Lib.hid (HB9.out.trans (hb.mono HB9.out.size))
    clear ho hb
    go_wp2_with fail
    go_ret2
    exact ⟨q, d, fun _ => ⟨rfl, HO.out⟩, fun h => (by cases h), HB10.out⟩
end Go.Proofs.YtciojggkcmdjiaaDoor
