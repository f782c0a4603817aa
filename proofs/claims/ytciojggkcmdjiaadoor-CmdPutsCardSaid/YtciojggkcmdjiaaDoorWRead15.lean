/-
  weave.Read, cmd.units: their contracts.
-/
import Derived.Test.YtciojggkcmdjiaaDoorRow15
import Derived.Test.YtciojggkcmdjiaaDoorRdr315
import Derived.Deep.DeepCutAuto
import Derived.Deep.CutBlock
namespace Go.Proofs.YtciojggkcmdjiaaDoor
open Go.RowKit
set_option linter.unusedSimpArgs false
set_option linter.unusedVariables false

theorem infoU : (Tryd.prog.info? 78).map (fun i => (i.zero, i.size, i.bytes)) = some (some (.agg #[.int .i64 0, .int .i64 0, .int .i32 0, .int .u32 0, .int .u64 0]), 5, 40) := by kernel_rfl
theorem rd_Upto_I {w : World} {lo a : Nat} {s : RS} {most : Nat} {m : Int} (hm : ((most : Nat) : Int) = m) (h : RdAt w lo a s) (hle : lo ≤ a) :
    Calls Tryd.prog 26 #[.pointer (some ⟨a, 0, none⟩), .int .u64 m] w fun x w' => x = .returned (.int .u64 (rdUpto s most).1) ∧ RdAt w' lo a (rdUpto s most).2 ∧ Ext (· = a) w w' := by
  subst hm
  exact rd_Upto h hle
def rdUnit (s : RS) : Ut × RS :=
  let k := rdNum s
  let p := rdUpto (if 2 < k.1 then rdFail k.2 5 else k.2) 2147483648
  let c := rdUpto p.2 1114111
  let l := rdUpto c.2 4294967295
  let q := rdNum l.2
  (⟨wrap64 (k.1 : Int), p.1, c.1, l.1, q.1⟩, q.2)
def rdUnits : Nat → RS → List Ut → List Ut × RS
  | 0, s, acc => (acc, s)
  | n + 1, s, acc => if (rdUnit s).2.e = 0 then rdUnits n (rdUnit s).2 (acc ++ [(rdUnit s).1]) else ([], (rdUnit s).2)
def rdRow (s : RS) (most : Int) : List Ut × RS := rdUnits (rdCount s most).1 (rdCount s most).2 []
def UtsOwn (w : World) (lo : Nat) (v : Value) (us : List Ut) : Prop := ∃ cs, w.ownsRow lo 78 5 v us.length cs ∧ Els UtR 5 cs us
theorem UtsOwn.ext {w w' : World} {lo : Nat} {v : Value} {us : List Ut} {M : Nat → Prop} (h : UtsOwn w lo v us) (hX : Ext M w w') (hM : ∀ g, v.ownBlock = some g → ¬ M g) : UtsOwn w' lo v us := by
  obtain ⟨cs, ho, hE⟩ := h
  exact ⟨cs, own_keep ho (fun k _ hk e => hX.block k hk (hM k e)), hE⟩
theorem UtsOwn.rd {w : World} {lo : Nat} {v : Value} {us : List Ut} (h : UtsOwn w lo v us) : UtsRd w (fun k => lo ≤ k ∧ k < w.heap.size) v us := by
  obtain ⟨cs, ho, hE⟩ := h
  exact ⟨cs, Rd.of_own ho, hE⟩
theorem RdAt.blk {w : World} {lo a : Nat} {s : RS} (h : RdAt w lo a s) : ∃ cs, Blk w a 99 cs := by
  obtain ⟨v, hB, _⟩ := h
  exact ⟨_, hB⟩
theorem UtsOwn.step {w w' : World} {lo lo' a : Nat} {s : RS} {v : Value} {us : List Ut} (h : UtsOwn w lo v us) (hr : RdAt w lo' a s) (hX : Ext (· = a) w w') : UtsOwn w' lo v us := by
  obtain ⟨cs, hB⟩ := hr.blk
  obtain ⟨cs', ho, hE⟩ := h
  exact ⟨cs', own_keep ho (fun k _ hk e => hX.block k hk (fun e2 => own_ne ho hB (by decide) (by rw [e, e2]))), hE⟩
theorem Ext.ofGrown {w w' : World} {row : Option Nat} (hg : w.grownBy w' row) : Ext (fun j => row = some j) w w' :=
  ⟨hg.os, hg.tape, hg.output, hg.size, fun k hk hn => hg.block k hk (fun e => hn e.symm)⟩
theorem Ext.over {M M2 : Nat → Prop} {a b c : World} (h : Ext M a b) (k : Ext M2 b c) (hM : ∀ j, M2 j → a.heap.size ≤ j) : Ext M a c :=
  ⟨k.os.trans h.os, k.tape.trans h.tape, k.output.trans h.output, Nat.le_trans h.size k.size, fun i hi hn => (k.block i (Nat.lt_of_lt_of_le hi h.size) (fun hm => by have := hM i hm; omega)).trans (h.block i hi hn)⟩
set_option maxHeartbeats 6400000 in
set_option maxRecDepth 100000 in
theorem weave_Read {w : World} {lo a : Nat} {s : RS} {most : Int} (h : RdAt w lo a s) (hle : lo ≤ a) (hm : most ≤ 1000) :
    Calls Tryd.prog 60 #[.pointer (some ⟨a, 0, none⟩), .int .i64 most] w fun x w' => ∃ v, x = .returned v ∧ UtsOwn w' w.heap.size v (rdRow s most).1 ∧ RdAt w' lo a (rdRow s most).2 ∧ Ext (· = a) w w' := by
  obtain ⟨i0, hi, hz0, hz1, hz2⟩ := info_parts infoU
  obtain ⟨res, hres⟩ : ∃ x, rdRow s most = x := ⟨_, rfl⟩
  rw [hres]
  have H := Lib.hid h
  have hza := h.lt
  have Hres := Lib.hid hres
  clear h hres
  go_enter Tryd.func60, Tryd.ntmps60
  go_wp2_with fail
  refine (rd_Count H.out hle (by omega)).mono ?_
  rintro _ w1 ⟨rfl, hr1, hE1⟩
  have hnm : (rdCount s most).1 ≤ 1000 := by have := rdUpto_le s most.toNat; unfold rdCount; omega
  obtain ⟨n, hn⟩ : ∃ x, (rdCount s most).1 = x := ⟨_, rfl⟩
  rw [hn] at hnm ⊢
  have HR1 := Lib.hid hr1
  have HE1 := Lib.hid hE1
  have H0 := Lib.hid (show rdUnits n (rdCount s most).2 [] = res from by rw [← hn]; exact Hres.out)
  clear hr1 hE1 hn Hres
  go_wp2_with fail
  go_loopw [5, 11] (fun rv iv wr => ∃ (k : Nat) (q : Option Addr) (d : Nat) (acc : List Ut) (t : RS), k ≤ n ∧ rv = .slice q k d ∧ iv = .int .i64 k ∧ Hid (acc.length = k ∧ UtsOwn wr w.heap.size (.slice q k d) acc ∧ RdAt wr lo a t ∧ Ext (· = a) w wr ∧ rdUnits (n - k) t acc = res)) (fun _ iv _ => n - (intOf iv).toNat)
  case atStart => exact ⟨0, none, 0, [], (rdCount s most).2, Nat.zero_le _, rfl, rfl, Lib.hid ⟨rfl, ⟨[], World.ownsRow_nil _ _ _ _, Els.nil _ _⟩, HR1.out, HE1.out, H0.out⟩⟩
  case round =>
    obtain ⟨k, q, d, acc, t, hk, rfl, rfl, hR⟩ := hrel
    clear HR1 HE1 H0
    by_cases hlt : k < n
    · have HO := Lib.hid (And.intro hR.out.1 hR.out.2.1)
      have HRt := Lib.hid hR.out.2.2.1
      have HEt := Lib.hid hR.out.2.2.2.1
      have Hun := Lib.hid (show (if (rdUnit t).2.e = 0 then rdUnits (n - (k + 1)) (rdUnit t).2 (acc ++ [(rdUnit t).1]) else ([], (rdUnit t).2)) = res from by
        have := hR.out.2.2.2.2
        rw [show n - k = n - (k + 1) + 1 by omega] at this
        exact this)
      clear hR
      go_wp2_with fail
      refine (rd_Num HRt.out hle).mono ?_
      rintro _ w2 ⟨rfl, hr2, hE2⟩
      obtain ⟨kd, t1, hkd⟩ : ∃ x y, rdNum t = (x, y) := ⟨_, _, rfl⟩
      rw [hkd] at hr2 ⊢
      have HO2 := Lib.hid (And.intro HO.out.1 (HO.out.2.step HRt.out hE2))
      have HR2 := Lib.hid hr2
      have HE2 := Lib.hid (HEt.out.trans hE2)
      have Hkd := Lib.hid hkd
      clear hr2 hE2 hkd HO HRt HEt
      obtain ⟨t2, ht2⟩ : ∃ x, (if 2 < kd then rdFail t1 5 else t1) = x := ⟨_, rfl⟩
      have Ht2 := Lib.hid ht2
      go_upto_if 16 with fail
      go_cut [18] (fun _ wy => Hid ((acc.length = k ∧ UtsOwn wy w.heap.size (.slice q k d) acc) ∧ RdAt wy lo a t2 ∧ Ext (· = a) w wy))
      case first =>
        by_cases h2 : 2 < kd
        · have d2 : decide ((2 : Int) < (kd : Int)) = true := by simp; omega
          rw [if_pos h2] at ht2
          go_wp2_with fail
          refine (rd_Fail (x := 5) HR2.out hle).mono ?_
          rintro _ w3 ⟨rfl, hr3, hE3⟩
          have HZ := Lib.hid (show (acc.length = k ∧ UtsOwn w3 w.heap.size (.slice q k d) acc) ∧ RdAt w3 lo a t2 ∧ Ext (· = a) w w3 from ⟨⟨HO2.out.1, HO2.out.2.step HR2.out hE3⟩, by rw [← ht2]; exact hr3, HE2.out.trans hE3⟩)
          clear hr3 hE3
          go_wp2_with fail
          go_meet
          case rel => exact HZ
        · have d2 : decide ((2 : Int) < (kd : Int)) = false := by simp; omega
          rw [if_neg h2] at ht2
          subst ht2
          go_wp2_with fail
          go_meet
          case rel => exact Lib.hid ⟨HO2.out, HR2.out, HE2.out⟩
      case rest =>
        obtain ⟨hA, hB, hC⟩ := hcut.out
        have HO3 := Lib.hid hA
        have HR3 := Lib.hid hB
        have HE3 := Lib.hid hC
        clear ht2 HO2 HR2 HE2 hcut hA hB hC
        obtain ⟨ps, t3, hps⟩ : ∃ x y, rdUpto t2 2147483648 = (x, y) := ⟨_, _, rfl⟩
        obtain ⟨ch, t4, hch⟩ : ∃ x y, rdUpto t3 1114111 = (x, y) := ⟨_, _, rfl⟩
        obtain ⟨cl, t5, hcl⟩ : ∃ x y, rdUpto t4 4294967295 = (x, y) := ⟨_, _, rfl⟩
        obtain ⟨rq, t6, hrq⟩ : ∃ x y, rdNum t5 = (x, y) := ⟨_, _, rfl⟩
        have l1 : ps ≤ 2147483648 := by have := rdUpto_le t2 2147483648; rw [hps] at this; exact this
        have l2 : ch ≤ 1114111 := by have := rdUpto_le t3 1114111; rw [hch] at this; exact this
        have l3 : cl ≤ 4294967295 := by have := rdUpto_le t4 4294967295; rw [hcl] at this; exact this
        have Hunit := Lib.hid (show rdUnit t = (⟨wrap64 (kd : Int), ps, ch, cl, rq⟩, t6) from by
          unfold rdUnit
          simp only [Hkd.out, Ht2.out, hps, hch, hcl, hrq])
        have Hun2 := Lib.hid (show (if t6.e = 0 then rdUnits (n - (k + 1)) t6 (acc ++ [⟨wrap64 (kd : Int), ps, ch, cl, rq⟩]) else ([], t6)) = res from by
          have := Hun.out
          rw [Hunit.out] at this
          exact this)
        have Hps := Lib.hid hps
        have Hch := Lib.hid hch
        have Hcl := Lib.hid hcl
        have Hrq := Lib.hid hrq
        have c1 : wrap64 (ps : Int) = ps := by unfold wrap64; omega
        have c2 : wrap32 (ch : Int) = ch := by unfold wrap32; omega
        have c3 : IntKind.u32.wrap (cl : Int) = cl := IntWalk.u32_in _ (by omega)
        clear hps hch hcl hrq Hun Hkd Ht2 Hunit l1 l2 l3
        go_wp2_with fail
        refine (rd_Upto_I (most := 2147483648) (m := 2147483648) (by simp) HR3.out hle).mono ?_
        rw [Hps.out]
        rintro _ w4 ⟨rfl, hr, hE⟩
        have HO4 := Lib.hid (And.intro HO3.out.1 (HO3.out.2.step HR3.out hE))
        have HR4 := Lib.hid hr
        have HE4 := Lib.hid (HE3.out.trans hE)
        clear hr hE HO3 HR3 HE3
        go_wp2_with fail
        refine (rd_Upto_I (most := 1114111) (m := 1114111) (by simp) HR4.out hle).mono ?_
        rw [Hch.out]
        rintro _ w5 ⟨rfl, hr, hE⟩
        have HO5 := Lib.hid (And.intro HO4.out.1 (HO4.out.2.step HR4.out hE))
        have HR5 := Lib.hid hr
        have HE5 := Lib.hid (HE4.out.trans hE)
        clear hr hE HO4 HR4 HE4
        go_wp2_with fail
        have hba := (Below.refl w5.heap.size w5).alloc (Nat.le_refl _) (.cells #[.int .i64 (wrap64 (kd : Int)), .int .i64 (ps : Int), .int .i32 (ch : Int), .int .u32 0, .int .u64 0] 78)
        have HO6 := Lib.hid (show acc.length = k ∧ UtsOwn (w5.alloc (.cells #[.int .i64 (wrap64 (kd : Int)), .int .i64 (ps : Int), .int .i32 (ch : Int), .int .u32 0, .int .u64 0] 78)) w.heap.size (.slice q k d) acc from ⟨HO5.out.1, HO5.out.2.step HR5.out (Ext.of_below _ hba)⟩)
        have HR6 := Lib.hid (HR5.out.below hba)
        have HE6 := Lib.hid (HE5.out.trans (Ext.of_below _ hba))
        have HK6 := Lib.hid (Blk.new w5 78 #[.int .i64 (wrap64 (kd : Int)), .int .i64 (ps : Int), .int .i32 (ch : Int), .int .u32 0, .int .u64 0])
        have Hne := Lib.hid (show w5.heap.size ≠ a from by have := HR5.out.lt; omega)
        have Hau := Lib.hid (show a < w5.heap.size from HR5.out.lt)
        have Hab := Lib.hid (show ∀ g, (Value.slice q k d).ownBlock = some g → g ≠ w5.heap.size ∧ w.heap.size ≤ g from fun g hg => by obtain ⟨cs, ho, -⟩ := HO5.out.2; have := ho.lt g hg; omega)
        have Hz5 := Lib.hid (show w.heap.size ≤ w5.heap.size from HE5.out.size)
        clear hba HO5 HR5 HE5
        generalize w5.alloc (.cells #[.int .i64 (wrap64 (kd : Int)), .int .i64 (ps : Int), .int .i32 (ch : Int), .int .u32 0, .int .u64 0] 78) = W6 at *
        generalize w5.heap.size = ub at *
        refine (rd_Upto_I (most := 4294967295) (m := 4294967295) (by simp) HR6.out hle).mono ?_
        rw [Hcl.out]
        rintro _ w7 ⟨rfl, hr, hE⟩
        have HO7 := Lib.hid (And.intro HO6.out.1 (HO6.out.2.step HR6.out hE))
        have HR7 := Lib.hid hr
        have HE7 := Lib.hid (HE6.out.trans hE)
        have HK7 := Lib.hid (HK6.out.ext hE Hne.out)
        clear hr hE HO6 HR6 HE6 HK6
        go_wp2_with fail
        refine (rd_Num HR7.out hle).mono ?_
        rw [Hrq.out]
        rintro _ w8 ⟨rfl, hr, hE⟩
        have HO8 := Lib.hid (And.intro HO7.out.1 (HO7.out.2.step HR7.out hE))
        have HR8 := Lib.hid hr
        have HE8 := Lib.hid (HE7.out.trans hE)
        have hK8 := HK7.out.ext hE Hne.out
        have HK8 := Lib.hid hK8
        have m3 := hK8.cell 3
        have m4 := hK8.cell 4
        have f3 := hK8.frozen 3
        have f4 := hK8.frozen 4
        simp only [List.getElem?_toArray, List.getElem?_cons_succ, List.getElem?_cons_zero] at m3 m4
        clear hr hE HO7 HR7 HE7 HK7 hK8
        go_wp2_with fail
        have hX9 := ((Ext.refl (fun j => j = ub) w8).setCell (p := ⟨ub, 3, none⟩) (.inl rfl) (.int .u32 cl)).setCell (p := ⟨ub, 4, none⟩) (.inl rfl) (.int .u64 rq)
        have HO9 := Lib.hid (show acc.length = k ∧ UtsOwn ((w8.setCell ⟨ub, 3, none⟩ (.int .u32 cl)).setCell ⟨ub, 4, none⟩ (.int .u64 rq)) w.heap.size (.slice q k d) acc from ⟨HO8.out.1, HO8.out.2.ext hX9 (fun g hg e => (Hab.out g hg).1 e)⟩)
        have HR9 := Lib.hid (show RdAt ((w8.setCell ⟨ub, 3, none⟩ (.int .u32 cl)).setCell ⟨ub, 4, none⟩ (.int .u64 rq)) lo a t6 from HR8.out.ext hX9 (fun j _ hj e => by have := Hau.out; omega) hle)
        have HE9 := Lib.hid (show Ext (· = a) w ((w8.setCell ⟨ub, 3, none⟩ (.int .u32 cl)).setCell ⟨ub, 4, none⟩ (.int .u64 rq)) from HE8.out.over hX9 (fun j hj => by have := Hz5.out; omega))
        have hK9 : Blk ((w8.setCell ⟨ub, 3, none⟩ (.int .u32 cl)).setCell ⟨ub, 4, none⟩ (.int .u64 rq)) ub 78 #[.int .i64 (wrap64 (kd : Int)), .int .i64 (ps : Int), .int .i32 (ch : Int), .int .u32 (cl : Int), .int .u64 (rq : Int)] := by simpa using (HK8.out.set_ 3 (.int .u32 cl)).set_ 4 (.int .u64 rq)
        have HK9 := Lib.hid hK9
        clear hX9 hK9 HO8 HR8 HE8 HK8 m3 m4 f3 f4
        generalize ((w8.setCell ⟨ub, 3, none⟩ (.int .u32 cl)).setCell ⟨ub, 4, none⟩ (.int .u64 rq)) = W10 at *
        refine (rd_Err HR9.out).mono ?_
        rintro _ _ ⟨rfl, rfl⟩
        by_cases he : t6.e = 0
        · have de : (t6.e != 0) = false := by simpa using he
          have Hun3 := Lib.hid (show rdUnits (n - (k + 1)) t6 (acc ++ [⟨wrap64 (kd : Int), ps, ch, cl, rq⟩]) = res from by
            have := Hun2.out
            rw [if_pos he] at this
            exact this)
          have m0 := HK9.out.cell 0
          have m1 := HK9.out.cell 1
          have m2 := HK9.out.cell 2
          have m3 := HK9.out.cell 3
          have m4 := HK9.out.cell 4
          simp only [List.getElem?_toArray, List.getElem?_cons_succ, List.getElem?_cons_zero] at m0 m1 m2 m3 m4
          obtain ⟨cs, ho, hEl⟩ := HO9.out.2
          rw [HO9.out.1] at ho
          have Hown := Lib.hid ho
          have HEl := Lib.hid hEl
          clear he Hun2 ho hEl
          go_wp2_with (at_builtin; refine wpList_append_own _ rfl _ _ 24 rfl w.heap.size 78 i0 _ 5 40 Tryd.underlying24 hi hz0 hz1 hz2 rfl (by decide) _ k cs rfl (own_alloc Hown.out _) ⟨W10.heap.size, 0, none⟩ 1 1 [.int .i64 (wrap64 (kd : Int)), .int .i64 (ps : Int), .int .i32 (ch : Int), .int .u32 (cl : Int), .int .u64 (rq : Int)] rfl rfl ?a1 ?a2 ?a3 ?a4 ?a5 ?_)
          case a1 => exact news_of_block (heap_alloc_new _ _)
          case a2 => intro u hu; simp at hu; rcases hu with rfl | rfl | rfl | rfl | rfl <;> rfl
          case a3 => unfold maxLen; omega
          case a4 => omega
          case a5 => have := HE9.out.size; simp; omega
          intro v5 w11 hown5 hgrow5 _
          obtain ⟨p5, c5, rfl⟩ := own_slice hown5
          have hba := (Below.refl W10.heap.size W10).alloc (Nat.le_refl _) (.cells #[.int .i64 (wrap64 (kd : Int)), .int .i64 (ps : Int), .int .i32 (ch : Int), .int .u32 (cl : Int), .int .u64 (rq : Int)] 78)
          have hX11 := Ext.ofGrown hgrow5
          have HZ := Lib.hid (show (acc ++ [(⟨wrap64 (kd : Int), ps, ch, cl, rq⟩ : Ut)]).length = k + 1 ∧ UtsOwn w11 w.heap.size (.slice p5 (k + 1) c5) (acc ++ [⟨wrap64 (kd : Int), ps, ch, cl, rq⟩]) ∧ RdAt w11 lo a t6 ∧ Ext (· = a) w w11 ∧ rdUnits (n - (k + 1)) t6 (acc ++ [⟨wrap64 (kd : Int), ps, ch, cl, rq⟩]) = res from by
            have hl : (acc ++ [(⟨wrap64 (kd : Int), ps, ch, cl, rq⟩ : Ut)]).length = k + 1 := by rw [List.length_append, HO9.out.1]; rfl
            refine ⟨hl, ⟨_, by rw [hl]; exact hown5, HEl.out.snoc rfl rfl⟩, (HR9.out.below hba).ext hX11 (fun j _ hj e => ?_) hle, (HE9.out.trans (Ext.of_below _ hba)).over hX11 (fun j hj => (Hab.out j hj).2), Hun3.out⟩
            have := (Hab.out j e).2
            omega)
          clear hba hX11 hown5 hgrow5 HO9 HR9 HE9 HK9 m0 m1 m2 m3 m4
          go_wp2_with fail
          go_roundw
          case rel => exact ⟨k + 1, p5, c5, _, t6, by omega, rfl, by go_num, HZ⟩
          case measure => simp [intOf]; omega
        · have de : (t6.e != 0) = true := by simpa using he
          have HF := Lib.hid (show ([], t6) = res from by
            have := Hun2.out
            rw [if_neg he] at this
            exact this)
          clear he Hun2
          go_wp2_with fail
          go_ret
          rw [← HF.out]
          exact ⟨_, rfl, ⟨[], World.ownsRow_nil _ _ _ _, Els.nil _ _⟩, HR9.out, HE9.out⟩
    · obtain rfl : k = n := by omega
      have HF := Lib.hid (show (acc, t) = res from by
        have := hR.out.2.2.2.2
        rw [Nat.sub_self] at this
        exact this)
      have Hl := Lib.hid hR.out.1
      have HO := Lib.hid hR.out.2.1
      have HRt := Lib.hid hR.out.2.2.1
      have HEt := Lib.hid hR.out.2.2.2.1
      clear hR
      go_wp2_with fail
      go_ret
      rw [← HF.out]
      exact ⟨_, rfl, HO.out, HRt.out, HEt.out⟩
end Go.Proofs.YtciojggkcmdjiaaDoor
