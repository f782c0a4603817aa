/-
  cmd.ParseCmd: its contract.
-/
import Derived.Test.YtciojggkcmdjiaaDoorPutC15
import Derived.Deep.DeepCutAuto
import Derived.Deep.CutBlock
namespace Go.Proofs.YtciojggkcmdjiaaDoor
open Go.RowKit
set_option linter.unusedSimpArgs false
set_option linter.unusedVariables false

/-- What ParseCmd reads, step by step. -/
structure PSt where
  k : Nat
  d : Nat
  nm : List UInt8
  rv : Nat
  ps : Nat
  us : List Ut
  s : RS
def psKind (b : List UInt8) : RS := if (rdNum ⟨b, 0⟩).1 < 1 ∨ 9 < (rdNum ⟨b, 0⟩).1 then rdFail (rdNum ⟨b, 0⟩).2 5 else (rdNum ⟨b, 0⟩).2
def psDoc (b : List UInt8) : Nat × RS := rdUpto (psKind b) 4294967295
def psName (b : List UInt8) : List UInt8 × RS := rdBytes (psDoc b).2 64
def psDec (b : List UInt8) : RS := if decB (psName b).1 = 0 then (psName b).2 else rdFail (psName b).2 (decB (psName b).1)
def psRev (b : List UInt8) : Nat × RS := rdUpto (psDec b) 1099511627776
def psPos (b : List UInt8) : Nat × RS := rdUpto (psRev b).2 2147483648
def psUs (b : List UInt8) : List Ut × RS := rdUs (psPos b).2
def psEnd (b : List UInt8) : RS := rdEnd (psUs b).2
def zeroCm : Cm := ⟨0, 0, [], 0, 0, []⟩
def psCm (b : List UInt8) : Cm := ⟨((min (rdNum ⟨b, 0⟩).1 9 : Nat) : Int), ((psDoc b).1 : Nat), (psName b).1, ((psRev b).1 : Nat), ((psPos b).1 : Nat), (psUs b).1⟩
def pCmd (b : List UInt8) : Cm × Int := if (psEnd b).e = 0 then (psCm b, 0) else (zeroCm, (psEnd b).e)
theorem rdFail_b (s : RS) (x : Int) : (rdFail s x).b = s.b := by unfold rdFail; split <;> rfl
theorem rdNum_shr (s : RS) : (rdNum s).2.b.length ≤ s.b.length := by
  unfold rdNum
  split
  · split
    · simp only [List.length_drop]; omega
    · exact Nat.le_refl _
  · exact Nat.le_refl _
theorem rdUpto_shr (s : RS) (m : Nat) : (rdUpto s m).2.b.length ≤ s.b.length := by
  unfold rdUpto
  split
  · rw [rdFail_b]; exact rdNum_shr s
  · exact rdNum_shr s
theorem Below.sets6 {w w' : World} {g : Nat} (h : Below w.heap.size w w') (hg : w.heap.size ≤ g) {a0 a1 a2 a3 a4 a5 : Value} :
    Below w.heap.size w ((((((w'.setCell ⟨g, 0, none⟩ a0).setCell ⟨g, 1, none⟩ a1).setCell ⟨g, 2, none⟩ a2).setCell ⟨g, 3, none⟩ a3).setCell ⟨g, 4, none⟩ a4).setCell ⟨g, 5, none⟩ a5) :=
  (((((h.setCell (p := ⟨g, 0, none⟩) hg a0).setCell (p := ⟨g, 1, none⟩) hg a1).setCell (p := ⟨g, 2, none⟩) hg a2).setCell (p := ⟨g, 3, none⟩) hg a3).setCell (p := ⟨g, 4, none⟩) hg a4).setCell (p := ⟨g, 5, none⟩) hg a5
theorem Ext.sets6 {M : Nat → Prop} {w w' : World} {g : Nat} (h : Ext M w w') (hg : M g) {a0 a1 a2 a3 a4 a5 : Value} :
    Ext M w ((((((w'.setCell ⟨g, 0, none⟩ a0).setCell ⟨g, 1, none⟩ a1).setCell ⟨g, 2, none⟩ a2).setCell ⟨g, 3, none⟩ a3).setCell ⟨g, 4, none⟩ a4).setCell ⟨g, 5, none⟩ a5) :=
  (((((h.setCell (p := ⟨g, 0, none⟩) (.inl hg) a0).setCell (p := ⟨g, 1, none⟩) (.inl hg) a1).setCell (p := ⟨g, 2, none⟩) (.inl hg) a2).setCell (p := ⟨g, 3, none⟩) (.inl hg) a3).setCell (p := ⟨g, 4, none⟩) (.inl hg) a4).setCell (p := ⟨g, 5, none⟩) (.inl hg) a5
theorem UtsOwn.base {w : World} {lo lo' : Nat} {v : Value} {us : List Ut} (h : UtsOwn w lo v us) (hb : lo' ≤ lo) : UtsOwn w lo' v us := by
  obtain ⟨cs, ho, hE⟩ := h
  exact ⟨cs, own_base ho hb, hE⟩
theorem pr_ {α β : Type} (p : α × β) : ∃ x y, p = (x, y) := ⟨p.1, p.2, rfl⟩
theorem rdBytes_le (s : RS) (m : Int) : (rdBytes s m).1.length ≤ m.toNat := by
  have h := rdUpto_le s m.toNat
  unfold rdBytes
  unfold rdCount
  split
  · split
    · simp only [List.length_take]; omega
    · exact Nat.zero_le _
  · exact Nat.zero_le _
structure Pst (w W : World) (lo a : Nat) (s : RS) : Prop where
  r : RdAt W lo a s
  z : Blk W w.heap.size 26 #[.int .i64 0, .int .u32 0, .string ⟨#[]⟩, .int .u64 0, .int .i64 0, .slice none 0 0]
  b : Below w.heap.size w W
  h : lo ≤ a ∧ w.heap.size < lo
theorem Pst.step {w W W' : World} {lo a : Nat} {s s' : RS} (H : Pst w W lo a s) (hr : RdAt W' lo a s') (hE : Ext (· = a) W W') : Pst w W' lo a s' :=
  ⟨hr, H.z.ext hE (fun e => by have := H.h; omega), Ext.from H.b hE (fun j hj => by have := H.h; omega), H.h⟩
theorem Pst.ext1 {w W W' : World} {lo a u : Nat} {s : RS} (H : Pst w W lo a s) (hX : Ext (· = u) W W') (hu : a < u) : Pst w W' lo a s :=
  ⟨H.r.ext hX (fun j _ hj e => by omega) H.h.1, H.z.ext hX (fun e => by have := H.h; omega), Ext.from H.b hX (fun j hj => by have := H.h; omega), H.h⟩
theorem Pst.below {w W W' : World} {lo a : Nat} {s : RS} (H : Pst w W lo a s) (hb : Below W.heap.size W W') : Pst w W' lo a s :=
  ⟨H.r.below hb, H.z.below hb, H.b.trans (hb.mono H.b.size), H.h⟩
theorem Pst.new {w w2 : World} {a : Nat} {b : List UInt8} (hr : RdAt w2 (w.alloc (.cells #[.int .i64 0, .int .u32 0, .string ⟨#[]⟩, .int .u64 0, .int .i64 0, .slice none 0 0] 26)).heap.size a ⟨b, 0⟩) (ha : (w.alloc (.cells #[.int .i64 0, .int .u32 0, .string ⟨#[]⟩, .int .u64 0, .int .i64 0, .slice none 0 0] 26)).heap.size ≤ a) (hb : Below (w.alloc (.cells #[.int .i64 0, .int .u32 0, .string ⟨#[]⟩, .int .u64 0, .int .i64 0, .slice none 0 0] 26)).heap.size (w.alloc (.cells #[.int .i64 0, .int .u32 0, .string ⟨#[]⟩, .int .u64 0, .int .i64 0, .slice none 0 0] 26)) w2) : Pst w w2 (w.alloc (.cells #[.int .i64 0, .int .u32 0, .string ⟨#[]⟩, .int .u64 0, .int .i64 0, .slice none 0 0] 26)).heap.size a ⟨b, 0⟩ := by
  have hba := (Below.refl w.heap.size w).alloc (Nat.le_refl _) (.cells #[.int .i64 0, .int .u32 0, .string ⟨#[]⟩, .int .u64 0, .int .i64 0, .slice none 0 0] 26)
  exact ⟨hr, (Blk.new w _ _).below hb, hba.trans (hb.mono hba.size), ha, by rw [World.size_alloc]; omega⟩
set_option maxHeartbeats 6400000 in
set_option maxRecDepth 100000 in
theorem cmd_ParseCmd {w : World} {S : Nat → Prop} {v : Value} {b : List UInt8} (hF : Forms w) (h : CmdRd w S v b) (hb : b.length ≤ 1000000) :
    Calls Tryd.prog 6 #[v] w fun x w' => ∃ q d, x = .returned (.tuple #[.agg #[.int .i64 (pCmd b).1.kind, .int .u32 (pCmd b).1.doc, .string ⟨(pCmd b).1.name.toArray⟩, .int .u64 (pCmd b).1.rev, .int .i64 (pCmd b).1.pos, .slice q (pCmd b).1.us.length d], .int .i64 (pCmd b).2]) ∧ UtsOwn w' w.heap.size (.slice q (pCmd b).1.us.length d) (pCmd b).1.us ∧ Below w.heap.size w w' := by
  obtain ⟨res, hres⟩ : ∃ x, pCmd b = x := ⟨_, rfl⟩
  rw [hres]
  have Hres := Lib.hid hres
  have H := Lib.hid h
  have HF := Lib.hid hF
  clear hres h hF
  obtain ⟨p, c, rfl⟩ := H.out.slice
  go_enter Tryd.func6, Tryd.ntmps6
  go_wp2_with fail
  have hba := (Below.refl w.heap.size w).alloc (Nat.le_refl _) (.cells #[.int .i64 0, .int .u32 0, .string ⟨#[]⟩, .int .u64 0, .int .i64 0, .slice none 0 0] 26)
  refine (rd_New (H.out.below hba) (by omega)).mono ?_
  rintro _ w2 ⟨a, rfl, hr, ha, -, hb2⟩
  have HP2 := Lib.hid (Pst.new hr ha hb2)
  have HF2 := Lib.hid (HF.out.below HP2.out.b)
  clear hr ha hb2 hba H HF
  generalize (w.alloc (.cells #[.int .i64 0, .int .u32 0, .string ⟨#[]⟩, .int .u64 0, .int .i64 0, .slice none 0 0] 26)).heap.size = lo at *
  obtain ⟨k, s1, hk⟩ : ∃ x y, rdNum ⟨b, 0⟩ = (x, y) := ⟨_, _, rfl⟩
  obtain ⟨s2, hs2⟩ : ∃ x, psKind b = x := ⟨_, rfl⟩
  have Hs2 := Lib.hid (show (if k < 1 ∨ 9 < k then rdFail s1 5 else s1) = s2 from by rw [← hs2]; unfold psKind; rw [hk])
  obtain ⟨d, s3, hd⟩ := pr_ (psDoc b)
  have Hd := Lib.hid (show rdUpto s2 4294967295 = (d, s3) from by have h := hd; unfold psDoc at h; rw [hs2] at h; exact h)
  obtain ⟨nm, s4, hnm⟩ := pr_ (psName b)
  have Hnm := Lib.hid (show rdBytes s3 64 = (nm, s4) from by have h := hnm; unfold psName at h; rw [hd] at h; exact h)
  obtain ⟨s5, hs5⟩ : ∃ x, psDec b = x := ⟨_, rfl⟩
  have Hs5 := Lib.hid (show (if decB nm = 0 then s4 else rdFail s4 (decB nm)) = s5 from by rw [← hs5]; unfold psDec; rw [hnm])
  obtain ⟨rv, s6, hrv⟩ := pr_ (psRev b)
  have Hrv := Lib.hid (show rdUpto s5 1099511627776 = (rv, s6) from by have h := hrv; unfold psRev at h; rw [hs5] at h; exact h)
  obtain ⟨ps, s7, hps⟩ := pr_ (psPos b)
  have Hps := Lib.hid (show rdUpto s6 2147483648 = (ps, s7) from by have h := hps; unfold psPos at h; rw [hrv] at h; exact h)
  obtain ⟨us, s8, hus⟩ := pr_ (psUs b)
  have Hus := Lib.hid (show rdUs s7 = (us, s8) from by have h := hus; unfold psUs at h; rw [hps] at h; exact h)
  obtain ⟨s9, hs9⟩ : ∃ x, psEnd b = x := ⟨_, rfl⟩
  have Hs9 := Lib.hid (show rdEnd s8 = s9 from by rw [← hs9]; unfold psEnd; rw [hus])
  have Hfin := Lib.hid (show res = if s9.e = 0 then (⟨((min k 9 : Nat) : Int), (d : Nat), nm, (rv : Nat), (ps : Nat), us⟩, 0) else (zeroCm, s9.e) from by
    rw [← Hres.out]
    unfold pCmd psCm
    rw [hs9, hk, hd, hnm, hrv, hps, hus])
  have Hk := Lib.hid hk
  have hdl : d ≤ 4294967295 := by have := rdUpto_le s2 4294967295; rw [Hd.out] at this; exact this
  have hpl : ps ≤ 2147483648 := by have := rdUpto_le s6 2147483648; rw [Hps.out] at this; exact this
  have c1 : IntKind.u32.wrap (d : Int) = d := IntWalk.u32_in _ (by omega)
  have c2 : wrap64 (ps : Int) = ps := by unfold wrap64; omega
  have Hs3l := Lib.hid (show s3.b.length ≤ 140737488355328 from by
    have h1 := rdUpto_shr s2 4294967295
    rw [Hd.out] at h1
    have h2 := rdNum_shr ⟨b, 0⟩
    rw [hk] at h2
    have h3 : s2.b = s1.b := by rw [← Hs2.out]; split; exact rdFail_b _ _; rfl
    simp only [h3] at h1 h2
    omega)
  have Hnl := Lib.hid (show nm.length ≤ 1000000 from by have := rdBytes_le s3 64; rw [Hnm.out] at this; simp at this; omega)
  clear hk hs2 hd hnm hs5 hrv hps hus hs9 Hres hdl hpl
  go_wp2_with fail
  refine (rd_Num HP2.out.r HP2.out.h.1).mono ?_
  rw [Hk.out]
  rintro _ w3 ⟨rfl, hr, hE⟩
  have HP3 := Lib.hid (HP2.out.step hr hE)
  have HF3 := Lib.hid (HF2.out.ext hE (fun e => by have := HP2.out.h; omega))
  clear hr hE HP2 HF2
  obtain ⟨bb, hbb⟩ : ∃ x, decide (k < 1 ∨ 9 < k) = x := ⟨_, rfl⟩
  have Hbb := Lib.hid hbb
  clear hbb
  go_upto_region 3 with fail
  go_cut [19] from 14 to 19 (fun tv wy => tv = .bool bb ∧ wy = w3)
  case first =>
    by_cases k1 : k < 1
    · have d1 : decide ((k : Int) < 1) = true := by simp; omega
      obtain rfl : bb = true := by rw [← Hbb.out]; simp; omega
      go_wp2_with fail
      go_meet
      case rel => exact ⟨rfl, rfl⟩
    · have d1 : decide ((k : Int) < 1) = false := by simp; omega
      by_cases k2 : 9 < k
      · have d2 : decide ((9 : Int) < (k : Int)) = true := by simp; omega
        obtain rfl : bb = true := by rw [← Hbb.out]; simp; omega
        go_wp2_with fail
        go_meet
        case rel => exact ⟨rfl, rfl⟩
      · have d2 : decide ((9 : Int) < (k : Int)) = false := by simp; omega
        obtain rfl : bb = false := by rw [← Hbb.out]; simp; omega
        go_wp2_with fail
        go_meet
        case rel => exact ⟨rfl, rfl⟩
  case rest =>
  obtain ⟨rfl, rfl⟩ := hcut
  go_upto_if 19 with fail
  go_cut [21] from 20 to 21 (fun _ wy => Hid (Pst w wy lo a s2 ∧ Forms wy))
  case first =>
    cases bb with
    | true =>
      have kb := of_decide_eq_true Hbb.out
      have he := Hs2.out
      rw [if_pos kb] at he
      clear kb
      go_wp2_with fail
      refine (rd_Fail (x := 5) HP3.out.r HP3.out.h.1).mono ?_
      rintro _ w4 ⟨rfl, hr, hE⟩
      rw [he] at hr
      have HZ := Lib.hid (show Pst w w4 lo a s2 ∧ Forms w4 from ⟨HP3.out.step hr hE, HF3.out.ext hE (fun e => by have := HP3.out.h; omega)⟩)
      clear hr hE
      go_wp2_with fail
      go_meet
      case rel => exact HZ
    | false =>
      have kb := of_decide_eq_false Hbb.out
      have he := Hs2.out
      rw [if_neg kb] at he
      clear kb
      have HZ := Lib.hid (show Pst w _ lo a s2 ∧ Forms _ from ⟨by rw [← he]; exact HP3.out, HF3.out⟩)
      go_wp2_with fail
      go_meet
      case rel => exact HZ
  case rest =>
    have HP4 := Lib.hid hcut.out.1
    have HF4 := Lib.hid hcut.out.2
    obtain ⟨km, hkm⟩ : ∃ x, min k 9 = x := ⟨_, rfl⟩
    rw [hkm] at Hfin
    have hmin1 : (if (9 : Int) < (k : Int) then (9 : Int) else (k : Int)) = (km : Int) := by rw [← hkm]; split <;> omega
    have hmin2 : min (k : Int) 9 = (km : Int) := by rw [← hkm]; omega
    have c3 : wrap64 (km : Int) = km := by unfold wrap64; omega
    clear hcut HP3 HF3 hkm
    go_wp2_with fail
    refine (rd_Upto_I (most := 4294967295) (m := 4294967295) (by simp) HP4.out.r HP4.out.h.1).mono ?_
    rw [Hd.out]
    rintro _ w5 ⟨rfl, hr, hE⟩
    have HP5 := Lib.hid (HP4.out.step hr hE)
    have HF5 := Lib.hid (HF4.out.ext hE (fun e => by have := HP4.out.h; omega))
    clear hr hE HP4 HF4 hmin1 hmin2
    go_wp2_with fail
    refine (rd_Str (most := 64) HP5.out.r HP5.out.h.1 (by decide) ?hlen).mono ?_
    case hlen => exact Hs3l.out
    rw [Hnm.out]
    rintro _ w6 ⟨rfl, hr, hE⟩
    have HP6 := Lib.hid (HP5.out.step hr hE)
    have HF6 := Lib.hid (HF5.out.ext hE (fun e => by have := HP5.out.h; omega))
    clear hr hE HP5 HF5
    have kc := fun w => run_str w nm
    go_wp2_with fail
    clear kc
    rw [show w6.heap.size + 1 = (w6.alloc (.cells #[.int .i64 (km : Int), .int .u32 (d : Int), .string ⟨nm.toArray⟩, .int .u64 0, .int .i64 0, .slice none 0 0] 26)).heap.size from (World.size_alloc _ _).symm]
    have hba := (Below.refl w6.heap.size w6).alloc (Nat.le_refl _) (.cells #[.int .i64 (km : Int), .int .u32 (d : Int), .string ⟨nm.toArray⟩, .int .u64 0, .int .i64 0, .slice none 0 0] 26)
    have HP7 := Lib.hid (HP6.out.below hba)
    have HF7 := Lib.hid (HF6.out.below hba)
    have HU7 := Lib.hid (Blk.new w6 26 #[.int .i64 (km : Int), .int .u32 (d : Int), .string ⟨nm.toArray⟩, .int .u64 0, .int .i64 0, .slice none 0 0])
    have Hau := Lib.hid (show a < w6.heap.size ∧ w.heap.size < w6.heap.size from ⟨HP6.out.r.lt, by have := HP6.out.r.lt; have := HP6.out.h; omega⟩)
    clear hba HP6 HF6
    generalize w6.alloc (.cells #[.int .i64 (km : Int), .int .u32 (d : Int), .string ⟨nm.toArray⟩, .int .u64 0, .int .i64 0, .slice none 0 0] 26) = W7 at *
    generalize w6.heap.size = u at *
    have hX := bytesWorld_below W7 ⟨nm.toArray⟩
    refine (utf_Decode (HF7.out.below hX) (str_rd W7 nm (by have := Hnl.out; unfold maxLen; omega)) Hnl.out).mono ?_
    rintro _ w8 ⟨⟨sx, rfl⟩, hb8⟩
    have hb9 := hX.trans (hb8.mono hX.size)
    have HP8 := Lib.hid (HP7.out.below hb9)
    have HF8 := Lib.hid (HF7.out.below hb9)
    have HU8 := Lib.hid (HU7.out.below hb9)
    obtain ⟨e, he⟩ : ∃ x, decB nm = x := ⟨_, rfl⟩
    rw [he]
    have Hs5b := Lib.hid (show (if e = 0 then s4 else rdFail s4 e) = s5 from by rw [← he]; exact Hs5.out)
    clear hX hb8 hb9 he HP7 HF7 HU7 Hs5
    go_upto_if 39 with fail
    obtain ⟨be, hbe⟩ : ∃ x, (e != (0 : Int)) = x := ⟨_, rfl⟩
    rw [hbe]
    have Hbe := Lib.hid hbe
    clear hbe
    go_cut [42] from 40 to 42 (fun _ wy => Hid (Pst w wy lo a s5 ∧ Blk wy u 26 #[.int .i64 (km : Int), .int .u32 (d : Int), .string ⟨nm.toArray⟩, .int .u64 0, .int .i64 0, .slice none 0 0]))
    case first =>
      cases be with
      | false =>
        have k4 : e = 0 := by have := Hbe.out; simpa using this
        have he := Hs5b.out
        rw [if_pos k4] at he
        have HZ := Lib.hid (show Pst w _ lo a s5 ∧ Blk _ u 26 #[.int .i64 (km : Int), .int .u32 (d : Int), .string ⟨nm.toArray⟩, .int .u64 0, .int .i64 0, .slice none 0 0] from ⟨by rw [← he]; exact HP8.out, HU8.out⟩)
        clear k4
        go_wp2_with fail
        go_meet
        case rel => exact HZ
      | true =>
        have k4 : ¬ e = 0 := by have := Hbe.out; simpa using this
        have he := Hs5b.out
        rw [if_neg k4] at he
        clear k4
        go_wp2_with fail
        refine (rd_Fail (x := e) HP8.out.r HP8.out.h.1).mono ?_
        rintro _ w9 ⟨rfl, hr, hE⟩
        rw [he] at hr
        have HZ := Lib.hid (show Pst w w9 lo a s5 ∧ Blk w9 u 26 #[.int .i64 (km : Int), .int .u32 (d : Int), .string ⟨nm.toArray⟩, .int .u64 0, .int .i64 0, .slice none 0 0] from ⟨HP8.out.step hr hE, HU8.out.ext hE (fun e => by have := Hau.out; omega)⟩)
        clear hr hE
        go_wp2_with fail
        go_meet
        case rel => exact HZ
    case rest =>
      have HP9 := Lib.hid hcut.out.1
      have HU9 := Lib.hid hcut.out.2
      clear hcut HP8 HF8 HU8 Hs5b
      go_wp2_with fail
      refine (rd_Upto_I (most := 1099511627776) (m := 1099511627776) (by simp) HP9.out.r HP9.out.h.1).mono ?_
      rw [Hrv.out]
      rintro _ w10 ⟨rfl, hr, hE⟩
      have HP10 := Lib.hid (HP9.out.step hr hE)
      have HU10 := Lib.hid (HU9.out.ext hE (fun e => by have := Hau.out; omega))
      clear hr hE HP9 HU9
      go_wp2_with fail
      refine (rd_Upto_I (most := 2147483648) (m := 2147483648) (by simp) HP10.out.r HP10.out.h.1).mono ?_
      rw [Hps.out]
      rintro _ w11 ⟨rfl, hr, hE⟩
      have HP11 := Lib.hid (HP10.out.step hr hE)
      have hU11 := HU10.out.ext hE (fun e => by have := Hau.out; omega)
      have HU11 := Lib.hid hU11
      obtain ⟨m0, m1, m2, m3, m4, m5, mf, hz⟩ := hU11.c6
      have f3 := mf 3
      have f4 := mf 4
      clear hr hE HP10 HU10 hU11 mf
      go_wp2_with fail
      have hX12 := ((Ext.refl (fun j => j = u) w11).setCell (p := ⟨u, 3, none⟩) (.inl rfl) (.int .u64 rv)).setCell (p := ⟨u, 4, none⟩) (.inl rfl) (.int .i64 ps)
      have HP12 := Lib.hid (HP11.out.ext1 hX12 Hau.out.1)
      have HU12 := Lib.hid (show Blk ((w11.setCell ⟨u, 3, none⟩ (.int .u64 rv)).setCell ⟨u, 4, none⟩ (.int .i64 ps)) u 26 #[.int .i64 (km : Int), .int .u32 (d : Int), .string ⟨nm.toArray⟩, .int .u64 (rv : Int), .int .i64 (ps : Int), .slice none 0 0] from by simpa using (HU11.out.set_ 3 (.int .u64 rv)).set_ 4 (.int .i64 ps))
      clear hX12 HP11 HU11 m0 m1 m2 m3 m4 m5 hz f3 f4
      generalize (w11.setCell ⟨u, 3, none⟩ (.int .u64 rv)).setCell ⟨u, 4, none⟩ (.int .i64 ps) = W12 at *
      refine (cmd_units HP12.out.r HP12.out.h.1).mono ?_
      rw [Hus.out]
      rintro _ w13 ⟨q, dd, rfl, ho, hr, hE⟩
      have HP13 := Lib.hid (HP12.out.step hr hE)
      have hU13 := HU12.out.ext hE (fun e => by have := Hau.out; omega)
      have HU13 := Lib.hid hU13
      have HO13 := Lib.hid ho
      have HuW := Lib.hid (show u < W12.heap.size from HU12.out.lt)
      obtain ⟨m0, m1, m2, m3, m4, m5, mf, hz⟩ := hU13.c6
      have f5 := mf 5
      clear hr hE ho hU13 mf HP12 HU12
      go_wp2_with fail
      have hX14 := (Ext.refl (fun j => j = u) w13).setCell (p := ⟨u, 5, none⟩) (.inl rfl) (.slice q us.length dd)
      have HP14 := Lib.hid (HP13.out.ext1 hX14 Hau.out.1)
      have HU14 := Lib.hid (show Blk (w13.setCell ⟨u, 5, none⟩ (.slice q us.length dd)) u 26 #[.int .i64 (km : Int), .int .u32 (d : Int), .string ⟨nm.toArray⟩, .int .u64 (rv : Int), .int .i64 (ps : Int), .slice q us.length dd] from by simpa using HU13.out.set_ 5 (.slice q us.length dd))
      have HO14 := Lib.hid (show UtsOwn (w13.setCell ⟨u, 5, none⟩ (.slice q us.length dd)) W12.heap.size (.slice q us.length dd) us from HO13.out.ext hX14 (fun g hg e => by
        obtain ⟨_, ho, _⟩ := HO13.out
        have := ho.lt g hg
        have := HuW.out
        omega))
      clear hX14 HP13 HU13 HO13 m0 m1 m2 m3 m4 m5 hz f5
      generalize w13.setCell ⟨u, 5, none⟩ (.slice q us.length dd) = W14 at *
      refine (rd_End HP14.out.r HP14.out.h.1).mono ?_
      rw [Hs9.out]
      rintro _ w15 ⟨rfl, hr, hE⟩
      have HP15 := Lib.hid (HP14.out.step hr hE)
      have hU15 := HU14.out.ext hE (fun e => by have := Hau.out; omega)
      have HO15 := Lib.hid (HO14.out.step HP14.out.r hE)
      have Hwl := Lib.hid (show w.heap.size ≤ W12.heap.size by have := Hau.out; have := HuW.out; omega)
      obtain ⟨m0, m1, m2, m3, m4, m5, -, hz⟩ := hU15.c6
      obtain ⟨r0, r1, r2, r3, r4, r5, rf_, hzr⟩ := HP15.out.z.c6
      have g0 := rf_ 0
      have g1 := rf_ 1
      have g2 := rf_ 2
      have g3 := rf_ 3
      have g4 := rf_ 4
      have g5 := rf_ 5
      have hne : w.heap.size ≠ u := by have := Hau.out; omega
      clear hr hE hU15 rf_ HP14 HU14 HO14
      by_cases he : s9.e = 0
      · have de : (s9.e != (0 : Int)) = false := by simpa using he
        obtain rfl : res = (⟨(km : Int), (d : Nat), nm, (rv : Nat), (ps : Nat), us⟩, 0) := by rw [Hfin.out, if_pos he]
        clear he Hfin
        go_wp2_with fail
        refine bodyPost_ret (v := .tuple #[.agg #[.int .i64 (km : Int), .int .u32 (d : Int), .string ⟨nm.toArray⟩, .int .u64 (rv : Int), .int .i64 (ps : Int), .slice q us.length dd], .int .i64 0]) (by simp [results, Tryd.results6, go_sem, r0, r1, r2, r3, r4, r5, hzr]) rfl ?_
        refine ⟨q, dd, rfl, (HO15.out.ext ((Ext.refl (fun j => j = w.heap.size) w15).sets6 rfl) (fun g hg e => ?_)).base Hwl.out, Below.sets6 HP15.out.b (Nat.le_refl _)⟩
        obtain ⟨_, ho, _⟩ := HO15.out
        have h1 := ho.lt g hg
        have h2 := Hau.out
        have h3 := HuW.out
        omega
      · have de : (s9.e != (0 : Int)) = true := by simpa using he
        obtain rfl : res = (zeroCm, s9.e) := by rw [Hfin.out, if_neg he]
        clear he Hfin
        go_wp2_with fail
        refine bodyPost_ret (v := .tuple #[.agg #[.int .i64 0, .int .u32 0, .string ⟨#[]⟩, .int .u64 0, .int .i64 0, .slice none 0 0], .int .i64 s9.e]) (by simp [results, Tryd.results6, go_sem, r0, r1, r2, r3, r4, r5, hzr]) rfl ?_
        exact ⟨none, 0, rfl, ⟨[], World.ownsRow_nil _ _ _ _, Els.nil _ _⟩, Below.sets6 HP15.out.b (Nat.le_refl _)⟩
end Go.Proofs.YtciojggkcmdjiaaDoor
