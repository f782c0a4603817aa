/-
  tells is true where both logs stand alike, and turns nothing old. (Printed by wip/gen_tells.py.)
-/
import Derived.Test.YtmoifhoncanjjaaTold
import Derived.Test.YtmoifhoncanjjaaSpoil
import Derived.Test.YtmoifhoncanjjaaFind
import Derived.Test.YtmoifhoncanjjaaRfFind
import Derived.Test.YtmoifhoncanjjaaAll
import Derived.Test.YtmoifhoncanjjaaWakes
namespace Go.Proofs.Ytmoifhoncanjjaa
open Go.RowKit
set_option linter.unusedSimpArgs false
set_option linter.unusedVariables false

theorem Holds.below : ∀ {l : List (Nat × Nat × Value)} {w w' : World}, Holds l w → Below w.heap.size w w' → Holds l w'
  | [], _, _, _, _ => trivial
  | (g, i, v) :: _, w, _, h, hb => ⟨(hb.cell (p := ⟨g, i, none⟩) (lt_of_cell (show w.cell? ⟨g, i, none⟩ = some v from h.1))).trans h.1, Holds.below h.2 hb⟩

/-- take_S, with the slot's number said. -/
theorem take_Sd {P : Program} {ops : Array Oper} {Q : Exit → Act → World → Prop} {md : Region.Mode} {S T : World → Prop} {D : List Nat} (i d : Nat) {oi : Oper} {v : Value} {fuel : Nat} {listed : Array Bool} {a : Act} {w : World} (hi : ops[i]? = some oi) (hiD : D.contains i = false)
    (hs : Region.noSelect ops = true) (hf : Region.free md ops listed i = true) (hr : (Region.ready md ops listed).contains i = true)
    (hQ : ∀ c a w, Q (.panic c) (a.put oi.dst v) w → Q (.panic c) a w) (hS : S w) (hT : noLate D listed = true → T w) (hw : Region.wanted oi (yielded ops a.tmps) = true) (hd : oi.dst = some d)
    (hy : ∀ w, S w → (execOp a.eval oi).run P w = .ok (.value v) w)
    (h : wpAnyD P md ops Q S T D fuel (listed.setIfInBounds i true) (a.put (some d) v) w) : wpAnyD P md ops Q S T D (fuel + 1) listed a w :=
  take_S i hi hiD hs hf hr hQ hS hT hw hy (by rw [hd]; exact h)

/-- What stands in memory while tells compares. -/
structure Tel (w : World) (S T U : Nat → Prop) (b rb o a d z1 z2 : Nat) (m : Int) (es : List Ent) (eo ge : Ent) (fl : List Ent) (sp p1 p2 p3 p4 lp rp : Option Addr) (sc c1 c2 c3 c4 lc rc : Nat) (W : World) : Prop where
  X : Below w.heap.size w W
  kO : Blk W o 33 #[.int .u64 eo.t, .int .u32 eo.c, .int .u64 eo.r, .slice sp eo.cmd.length sc]
  kA : Blk W a 33 #[.int .u64 ge.t, .int .u32 ge.c, .int .u64 ge.r, .slice p1 ge.cmd.length c1]
  kB : Blk W d 33 #[.int .u64 ge.t, .int .u32 ge.c, .int .u64 ge.r, .slice p2 ge.cmd.length c2]
  hA : BSp W (fun j => w.heap.size ≤ j ∧ j < z1) (.slice p1 ge.cmd.length c1) ge.cmd.length
  rA : ∃ S, CmdRd W S (.slice p1 ge.cmd.length c1) ge.cmd
  rB : ∃ S, CmdRd W S (.slice p2 ge.cmd.length c2) ge.cmd
  rO : CmdRd W U (.slice sp eo.cmd.length sc) eo.cmd
  eC : EntsOwn W z2 (.slice p3 fl.length c3) fl
  eD : ∃ S, EntsRd W S (.slice p4 fl.length c4) fl
  L : LogAt W S b m es
  R : RLog W T rb m es
  kL : Blk W b 67 #[.int .u64 m, .slice lp es.length lc, .bool true]
  kR : Blk W rb 58 #[.int .u64 m, .slice rp es.length rc]
section
variable {w W W' : World} {S T U : Nat → Prop} {b rb o a d z1 z2 : Nat} {m : Int} {es : List Ent} {eo ge : Ent} {fl : List Ent} {sp p1 p2 p3 p4 lp rp : Option Addr} {sc c1 c2 c3 c4 lc rc : Nat}
theorem Tel.below (h : Tel w S T U b rb o a d z1 z2 m es eo ge fl sp p1 p2 p3 p4 lp rp sc c1 c2 c3 c4 lc rc W) (hb : Below W.heap.size W W') : Tel w S T U b rb o a d z1 z2 m es eo ge fl sp p1 p2 p3 p4 lp rp sc c1 c2 c3 c4 lc rc W' :=
  ⟨h.X.trans (hb.mono h.X.size), h.kO.below hb, h.kA.below hb, h.kB.below hb, h.hA.ext (Ext.of_below (fun _ => False) hb) (fun _ _ _ => id) (fun _ h _ => h), h.rA.imp fun _ h => Rd.below h (by decide) hb, h.rB.imp fun _ h => Rd.below h (by decide) hb, Rd.below h.rO (by decide) hb,
   h.eC.below hb, h.eD.imp fun _ h => h.below hb, h.L.below hb, h.R.below hb, h.kL.below hb, h.kR.below hb⟩
theorem Tel.holds (h : Tel w S T U b rb o a d z1 z2 m es eo ge fl sp p1 p2 p3 p4 lp rp sc c1 c2 c3 c4 lc rc W) : Holds [(a, 0, .int .u64 ge.t), (a, 1, .int .u32 ge.c), (a, 2, .int .u64 ge.r), (a, 3, .slice p1 ge.cmd.length c1), (d, 0, .int .u64 ge.t), (d, 1, .int .u32 ge.c), (d, 2, .int .u64 ge.r), (d, 3, .slice p2 ge.cmd.length c2), (o, 0, .int .u64 eo.t), (o, 1, .int .u32 eo.c), (o, 2, .int .u64 eo.r), (o, 3, .slice sp eo.cmd.length sc), (rb, 0, .int .u64 m), (rb, 1, .slice rp es.length rc)] W :=
  ⟨h.kA.cell 0, h.kA.cell 1, h.kA.cell 2, h.kA.cell 3, h.kB.cell 0, h.kB.cell 1, h.kB.cell 2, h.kB.cell 3, h.kO.cell 0, h.kO.cell 1, h.kO.cell 2, h.kO.cell 3, h.kR.cell 0, h.kR.cell 1, trivial⟩
end

set_option maxHeartbeats 12800000 in
set_option maxRecDepth 100000 in
theorem tells_true {w : World} {S T U : Nat → Prop} {b rb : Nat} {m op : Int} {es : List Ent} {eo : Ent} {so : Value} (hL : LogAt w S b m es) (hR : RLog w T rb m es) (ok : LogOk m es) (ho : CmdRd w U so eo.cmd) :
    Calls Try.prog 28 #[.pointer (some ⟨b, 0, none⟩), .pointer (some ⟨rb, 0, none⟩), .int .u64 op, entVal eo so] w fun x w' => x = .returned (.bool true) ∧ Below w.heap.size w w' := by
  obtain ⟨sp, sc, rfl⟩ := Rd.slice ho
  have hX0 := (Below.refl w.heap.size w).alloc (Nat.le_refl _) (.cells #[.int .u64 eo.t, .int .u32 eo.c, .int .u64 eo.r, .slice sp eo.cmd.length sc] 33)
  have kO := Blk.new w 33 #[.int .u64 eo.t, .int .u32 eo.c, .int .u64 eo.r, .slice sp eo.cmd.length sc]
  obtain ⟨n1, hn1⟩ : ∃ n, lastN (hit es eo.c eo.r) es.length = n := ⟨_, rfl⟩
  obtain ⟨fo, hfo⟩ : ∃ n, foundOp m n1 = n := ⟨_, rfl⟩
  obtain ⟨fb, hfb⟩ : ∃ n, decide (0 < n1) = n := ⟨_, rfl⟩
  obtain ⟨ge, hge⟩ : ∃ e, getE m es op = e := ⟨_, rfl⟩
  obtain ⟨gr, hgr⟩ : ∃ r, getR m es.length op = r := ⟨_, rfl⟩
  obtain ⟨fl, hfl⟩ : ∃ l, fromL m es op = l := ⟨_, rfl⟩
  obtain ⟨fr, hfr⟩ : ∃ r, withinE m es.length op = r := ⟨_, rfl⟩
  have hgl := ok.fits.getE (m := m) op
  have hll := fromL_len m es op
  have hlf := ok.fits.fromL (m := m) op
  have h64 := ok.len
  rw [hge] at hgl
  rw [hfl] at hll hlf
  have hlw : m + (es.length : Int) = IntKind.u64.wrap (m + (es.length : Int)) := by rw [IntWalk.u64_in _ (by have := ok.low; have := ok.high; omega)]
  obtain ⟨lp, lc, hkL, -⟩ := id hL
  obtain ⟨rp, rc, hkR, -⟩ := id hR
  have Hlf := Lib.hid hlf
  have HX0 := Lib.hid hX0
  have KO := Lib.hid kO
  have HG1 := Lib.hid (fun (w1 : World) (h : Below w.heap.size w w1) => log_Get_any (op := op) (hL.below h) ok)
  have HG2 := Lib.hid (fun (w1 : World) (h : Below w.heap.size w w1) => ref_Get_any (op := op) (hR.below h) ok)
  have HF1 := Lib.hid (fun (w1 : World) (h : Below w.heap.size w w1) => log_From_any (op := op) (hL.below h) ok)
  have HF2 := Lib.hid (fun (w1 : World) (h : Below w.heap.size w w1) => ref_From_any (op := op) (hR.below h) ok)
  have HD1 := Lib.hid (fun (w1 : World) (h : Below w.heap.size w w1) => log_Find (client := eo.c) (req := eo.r) (hL.below h) ok)
  have HD2 := Lib.hid (fun (w1 : World) (h : Below w.heap.size w w1) => ref_Find (client := eo.c) (req := eo.r) (hR.below h) ok.len)
  have HL := Lib.hid hL
  have HR := Lib.hid hR
  have Hok := Lib.hid ok
  have Ho := Lib.hid ho
  have HkL := Lib.hid hkL
  have HkR := Lib.hid hkR
  rw [hge, hgr] at HG1 HG2
  rw [hfl, hfr] at HF1 HF2
  rw [hn1, hfo, hfb] at HD1 HD2
  clear hge hgr hfl hfr hn1 hfo hfb hlw hlf hX0 kO hL hR ok ho hkL hkR
  unfold entVal
  go_enter Try.func28, Try.ntmps28
  go_wp2_with fail
  generalize w.alloc (.cells #[.int .u64 eo.t, .int .u32 eo.c, .int .u64 eo.r, .slice sp eo.cmd.length sc] 33) = W0 at *
  refine (HG1.out W0 HX0.out).mono ?_
  rintro x w1 ⟨p1, c1, rfl, ho1, hb1⟩
  have hX1 := HX0.out.trans (hb1.mono HX0.out.size)
  have kO := KO.out.below hb1
  have HO1 := Lib.hid ho1
  have HX1 := Lib.hid hX1
  have KO1 := Lib.hid kO
  have HA1 := Lib.hid (show BSp w1 (fun j => w.heap.size ≤ j ∧ j < w1.heap.size) (.slice p1 ge.cmd.length c1) ge.cmd.length from (BSp.own ho1).ext (Ext.refl (fun _ => False) _) (fun _ _ _ => id) (fun j h _ => ⟨by have := HX0.out.size; omega, h.2⟩))
  clear ho1 hb1 hX1 kO KO
  unfold entVal
  go_wp2_with fail
  have kA := Blk.new w1 33 #[.int .u64 ge.t, .int .u32 ge.c, .int .u64 ge.r, .slice p1 ge.cmd.length c1]
  have hb := (Below.refl w1.heap.size w1).alloc (Nat.le_refl _) (.cells #[.int .u64 ge.t, .int .u32 ge.c, .int .u64 ge.r, .slice p1 ge.cmd.length c1] 33)
  generalize w1.alloc (.cells #[.int .u64 ge.t, .int .u32 ge.c, .int .u64 ge.r, .slice p1 ge.cmd.length c1] 33) = W1 at *
  have hX1 := HX1.out.trans (hb.mono HX1.out.size)
  have HXa := Lib.hid hX1
  have KO2 := Lib.hid (KO1.out.below hb)
  have HO2 := Lib.hid (own_below HO1.out hb)
  have HA2 := Lib.hid (HA1.out.ext (Ext.of_below (fun _ => False) hb) (fun _ _ _ => id) (fun _ h _ => h))
  have KA := Lib.hid kA
  have Hz0 := Lib.hid (show w.heap.size ≤ w1.heap.size from HX1.out.size)
  have Hz1 := Lib.hid (show w1.heap.size < W1.heap.size from kA.lt)
  clear hX1 hb kA KO1 HO1 HA1
  refine (HG2.out W1 HXa.out).mono ?_
  rintro x w2 ⟨p2, c2, rfl, ho2, hb2⟩
  have HX2 := Lib.hid (HXa.out.trans (hb2.mono HXa.out.size))
  have KO3 := Lib.hid (KO2.out.below hb2)
  have KA3 := Lib.hid (KA.out.below hb2)
  have HO3 := Lib.hid (own_below HO2.out hb2)
  have HA3 := Lib.hid (HA2.out.ext (Ext.of_below (fun _ => False) hb2) (fun _ _ _ => id) (fun _ h _ => h))
  have HP3 := Lib.hid ho2
  have Hz2 := Lib.hid (show W1.heap.size ≤ w2.heap.size from hb2.size)
  clear KO2 KA HO2 HA2 ho2 hb2
  unfold entVal
  go_wp2_with fail
  have kB := Blk.new w2 33 #[.int .u64 ge.t, .int .u32 ge.c, .int .u64 ge.r, .slice p2 ge.cmd.length c2]
  have hb := (Below.refl w2.heap.size w2).alloc (Nat.le_refl _) (.cells #[.int .u64 ge.t, .int .u32 ge.c, .int .u64 ge.r, .slice p2 ge.cmd.length c2] 33)
  generalize w2.alloc (.cells #[.int .u64 ge.t, .int .u32 ge.c, .int .u64 ge.r, .slice p2 ge.cmd.length c2] 33) = W2 at *
  have HXb := Lib.hid (HX2.out.trans (hb.mono HX2.out.size))
  have KO4 := Lib.hid (KO3.out.below hb)
  have KA4 := Lib.hid (KA3.out.below hb)
  have HO4 := Lib.hid (own_below HO3.out hb)
  have HA4 := Lib.hid (HA3.out.ext (Ext.of_below (fun _ => False) hb) (fun _ _ _ => id) (fun _ h _ => h))
  have HP4 := Lib.hid (own_below HP3.out hb)
  have KB4 := Lib.hid kB
  have Hz3 := Lib.hid (show w2.heap.size ≤ W2.heap.size from hb.size)
  clear KO3 KA3 HO3 HA3 HP3 hb kB
  refine (HF1.out W2 HXb.out).mono ?_
  rintro x w3 ⟨p3, c3, rfl, ho3, hb3⟩
  have HX3 := Lib.hid (HXb.out.trans (hb3.mono HXb.out.size))
  have KO5 := Lib.hid (KO4.out.below hb3)
  have KA5 := Lib.hid (KA4.out.below hb3)
  have KB5 := Lib.hid (KB4.out.below hb3)
  have HO5 := Lib.hid (own_below HO4.out hb3)
  have HA5 := Lib.hid (HA4.out.ext (Ext.of_below (fun _ => False) hb3) (fun _ _ _ => id) (fun _ h _ => h))
  have HP5 := Lib.hid (own_below HP4.out hb3)
  have HC5 := Lib.hid ho3
  clear KO4 KA4 KB4 HO4 HA4 HP4 ho3 hb3
  go_wp2_with fail
  refine (HF2.out w3 HX3.out).mono ?_
  rintro x w4 ⟨p4, c4, rfl, ho4, hb4⟩
  have hX4 := HX3.out.trans (hb4.mono HX3.out.size)
  have HT := Lib.hid (show Tel w S T U b rb w.heap.size w1.heap.size w2.heap.size w1.heap.size W2.heap.size m es eo ge fl sp p1 p2 p3 p4 lp rp sc c1 c2 c3 c4 lc rc w4 from
    ⟨hX4, KO5.out.below hb4, KA5.out.below hb4, KB5.out.below hb4, HA5.out.ext (Ext.of_below (fun _ => False) hb4) (fun _ _ _ => id) (fun _ h _ => h), ⟨_, Rd.of_own (own_below HO5.out hb4)⟩, ⟨_, Rd.of_own (own_below HP5.out hb4)⟩, Rd.below Ho.out (by decide) hX4,
     HC5.out.below hb4, ⟨_, ho4.rd⟩, HL.out.below hX4, HR.out.below hX4, HkL.out.below hX4, HkR.out.below hX4⟩)
  have Hz := Lib.hid (show w1.heap.size ≤ W2.heap.size ∧ w.heap.size ≤ W2.heap.size ∧ w1.heap.size < w2.heap.size ∧ w2.heap.size ≤ W2.heap.size ∧ w.heap.size ≤ w1.heap.size from by have h0 := Hz0.out; have h1 := Hz1.out; have h2 := Hz2.out; have h3 := Hz3.out; omega)
  obtain ⟨o0, o1, o2, o3, -⟩ := HT.out.kO.c4
  clear KO5 KA5 KB5 HO5 HA5 HP5 HC5 ho4 hb4 hX4 HL HR HkL HkR HX0 HX1 HXa HX2 HXb HX3 HG1 HG2 HF1 HF2 Ho
  go_wp2_with fail
  refine (HD1.out w4 HT.out.X).mono ?_
  rintro x w5 ⟨rfl, hb5⟩
  have HT5 := Lib.hid (HT.out.below hb5)
  clear HT hb5 o0 o1 o2 o3
  obtain ⟨o0, o1, o2, o3, -⟩ := HT5.out.kO.c4
  go_wp2_with fail
  refine (HD2.out w5 HT5.out.X).mono ?_
  rintro x _ ⟨rfl, rfl⟩
  clear HD1 HD2 Hz0 Hz1 Hz2 Hz3
  clear o0 o1 o2 o3
  generalize w1.heap.size = a at *
  generalize w2.heap.size = d at *
  generalize W2.heap.size = z2 at *
  go_wp2_with fail
  have HT6 := Lib.hid (HT5.out.below (Below.refl _ w5).drew)
  clear HT5
  have hS : Holds [(a, 0, .int .u64 ge.t), (a, 1, .int .u32 ge.c), (a, 2, .int .u64 ge.r), (a, 3, .slice p1 ge.cmd.length c1), (d, 0, .int .u64 ge.t), (d, 1, .int .u32 ge.c), (d, 2, .int .u64 ge.r), (d, 3, .slice p2 ge.cmd.length c2), (w.heap.size, 0, .int .u64 eo.t), (w.heap.size, 1, .int .u32 eo.c), (w.heap.size, 2, .int .u64 eo.r), (w.heap.size, 3, .slice sp eo.cmd.length sc), (rb, 0, .int .u64 m), (rb, 1, .slice rp es.length rc)] w5.drew := HT6.out.holds
  refine begin_D (T := Hold0) [] (by kernel_rfl) hS (fun _ => trivial) ?_
  refine take_Sd (v := ?v0) 0 64 rfl (by kernel_rfl) (by kernel_rfl) (by kernel_rfl) (by kernel_rfl) (fun _ _ _ h => h) hS (fun _ => trivial) rfl rfl (fun w' hq => ?h0) ?_
  case h0 => obtain ⟨q0, q1, q2, q3, q4, q5, q6, q7, q8, q9, qa, qb, qc, qd, -⟩ := hq; change _ = some _ at q0; change _ = some _ at q1; change _ = some _ at q2; change _ = some _ at q3; go_simp; try with_reducible rfl
  try simp only [Act.put, List.setIfInBounds_toArray, List.set_cons_zero, List.set_cons_succ, List.getElem_toArray, List.getElem_cons_succ, List.getElem_cons_zero]
  refine take_Sd (v := ?v1) 1 65 rfl (by kernel_rfl) (by kernel_rfl) (by kernel_rfl) (by kernel_rfl) (fun _ _ _ h => h) hS (fun _ => trivial) rfl rfl (fun w' hq => ?h1) ?_
  case h1 => obtain ⟨q0, q1, q2, q3, q4, q5, q6, q7, q8, q9, qa, qb, qc, qd, -⟩ := hq; change _ = some _ at q4; change _ = some _ at q5; change _ = some _ at q6; change _ = some _ at q7; go_simp; try with_reducible rfl
  try simp only [Act.put, List.setIfInBounds_toArray, List.set_cons_zero, List.set_cons_succ, List.getElem_toArray, List.getElem_cons_succ, List.getElem_cons_zero]
  refine one_D 2 rfl (by kernel_rfl) (fun KQ hK => ?_)
  go_simp
  refine (ref_Same (e := ge) (f := ge) HT6.out.rA.choose_spec HT6.out.rB.choose_spec).mono ?_
  rintro x w6 ⟨rfl, hb⟩
  rw [sameB_self]
  have hS7 := Holds.below hS hb
  have HT7 := Lib.hid (HT6.out.below hb)
  clear HT6 hS hb
  refine hK.out _ _ hS7 (fun _ => trivial) ?_
  clear hK
  refine take_Sd (v := ?v3) 3 67 rfl (by kernel_rfl) (by kernel_rfl) (by kernel_rfl) (by kernel_rfl) (fun _ _ _ h => h) hS7 (fun _ => trivial) rfl rfl (fun w' hq => ?h3) ?_
  case h3 => go_simp; try with_reducible rfl
  try simp only [Act.put, List.setIfInBounds_toArray, List.set_cons_zero, List.set_cons_succ, List.getElem_toArray, List.getElem_cons_succ, List.getElem_cons_zero]
  refine take_Sd (v := ?v4) 4 68 rfl (by kernel_rfl) (by kernel_rfl) (by kernel_rfl) (by kernel_rfl) (fun _ _ _ h => h) hS7 (fun _ => trivial) rfl rfl (fun w' hq => ?h4) ?_
  case h4 => go_simp; try with_reducible rfl
  try simp only [Act.put, List.setIfInBounds_toArray, List.set_cons_zero, List.set_cons_succ, List.getElem_toArray, List.getElem_cons_succ, List.getElem_cons_zero]
  refine take_Sd (v := ?v5) 5 69 rfl (by kernel_rfl) (by kernel_rfl) (by kernel_rfl) (by kernel_rfl) (fun _ _ _ h => h) hS7 (fun _ => trivial) rfl rfl (fun w' hq => ?h5) ?_
  case h5 => go_simp; try with_reducible rfl
  try simp only [Act.put, List.setIfInBounds_toArray, List.set_cons_zero, List.set_cons_succ, List.getElem_toArray, List.getElem_cons_succ, List.getElem_cons_zero]
  refine take_Sd (v := (.bool true)) 6 70 rfl (by kernel_rfl) (by kernel_rfl) (by kernel_rfl) (by kernel_rfl) (fun _ _ _ h => h) hS7 (fun _ => trivial) rfl rfl (fun w' hq => ?h6) ?_
  case h6 => go_simp; first | rfl | (simp; done) | skip
  try simp only [Act.put, List.setIfInBounds_toArray, List.set_cons_zero, List.set_cons_succ, List.getElem_toArray, List.getElem_cons_succ, List.getElem_cons_zero]
  refine take_Sd (v := ?v7) 7 71 rfl (by kernel_rfl) (by kernel_rfl) (by kernel_rfl) (by kernel_rfl) (fun _ _ _ h => h) hS7 (fun _ => trivial) rfl rfl (fun w' hq => ?h7) ?_
  case h7 => go_simp; try with_reducible rfl
  try simp only [Act.put, List.setIfInBounds_toArray, List.set_cons_zero, List.set_cons_succ, List.getElem_toArray, List.getElem_cons_succ, List.getElem_cons_zero]
  refine take_Sd (v := ?v8) 8 72 rfl (by kernel_rfl) (by kernel_rfl) (by kernel_rfl) (by kernel_rfl) (fun _ _ _ h => h) hS7 (fun _ => trivial) rfl rfl (fun w' hq => ?h8) ?_
  case h8 => go_simp; try with_reducible rfl
  try simp only [Act.put, List.setIfInBounds_toArray, List.set_cons_zero, List.set_cons_succ, List.getElem_toArray, List.getElem_cons_succ, List.getElem_cons_zero]
  refine take_Sd (v := ?v9) 9 73 rfl (by kernel_rfl) (by kernel_rfl) (by kernel_rfl) (by kernel_rfl) (fun _ _ _ h => h) hS7 (fun _ => trivial) rfl rfl (fun w' hq => ?h9) ?_
  case h9 => go_simp; try with_reducible rfl
  try simp only [Act.put, List.setIfInBounds_toArray, List.set_cons_zero, List.set_cons_succ, List.getElem_toArray, List.getElem_cons_succ, List.getElem_cons_zero]
  refine take_Sd (v := ?v10) 10 74 rfl (by kernel_rfl) (by kernel_rfl) (by kernel_rfl) (by kernel_rfl) (fun _ _ _ h => h) hS7 (fun _ => trivial) rfl rfl (fun w' hq => ?h10) ?_
  case h10 => go_simp; try with_reducible rfl
  try simp only [Act.put, List.setIfInBounds_toArray, List.set_cons_zero, List.set_cons_succ, List.getElem_toArray, List.getElem_cons_succ, List.getElem_cons_zero]
  refine one_D 11 rfl (by kernel_rfl) (fun KQ hK => ?_)
  go_simp
  refine (ref_All HT7.out.eC.rd HT7.out.eD.choose_spec (by omega)).mono ?_
  rintro x w7 ⟨rfl, hb⟩
  have hS8 := Holds.below hS7 hb
  have HT8 := Lib.hid (HT7.out.below hb)
  clear HT7 hS7 hb
  refine hK.out _ _ hS8 (fun _ => trivial) ?_
  clear hK
  refine take_Sd (v := ?v12) 12 76 rfl (by kernel_rfl) (by kernel_rfl) (by kernel_rfl) (by kernel_rfl) (fun _ _ _ h => h) hS8 (fun _ => trivial) rfl rfl (fun w' hq => ?h12) ?_
  case h12 => go_simp; try with_reducible rfl
  try simp only [Act.put, List.setIfInBounds_toArray, List.set_cons_zero, List.set_cons_succ, List.getElem_toArray, List.getElem_cons_succ, List.getElem_cons_zero]
  refine take_Sd (v := ?v13) 13 77 rfl (by kernel_rfl) (by kernel_rfl) (by kernel_rfl) (by kernel_rfl) (fun _ _ _ h => h) hS8 (fun _ => trivial) rfl rfl (fun w' hq => ?h13) ?_
  case h13 => go_simp; try with_reducible rfl
  try simp only [Act.put, List.setIfInBounds_toArray, List.set_cons_zero, List.set_cons_succ, List.getElem_toArray, List.getElem_cons_succ, List.getElem_cons_zero]
  refine take_Sd (v := ?v14) 14 78 rfl (by kernel_rfl) (by kernel_rfl) (by kernel_rfl) (by kernel_rfl) (fun _ _ _ h => h) hS8 (fun _ => trivial) rfl rfl (fun w' hq => ?h14) ?_
  case h14 => go_simp; try with_reducible rfl
  try simp only [Act.put, List.setIfInBounds_toArray, List.set_cons_zero, List.set_cons_succ, List.getElem_toArray, List.getElem_cons_succ, List.getElem_cons_zero]
  refine take_Sd (v := ?v15) 15 79 rfl (by kernel_rfl) (by kernel_rfl) (by kernel_rfl) (by kernel_rfl) (fun _ _ _ h => h) hS8 (fun _ => trivial) rfl rfl (fun w' hq => ?h15) ?_
  case h15 => go_simp; try with_reducible rfl
  try simp only [Act.put, List.setIfInBounds_toArray, List.set_cons_zero, List.set_cons_succ, List.getElem_toArray, List.getElem_cons_succ, List.getElem_cons_zero]
  refine take_Sd (v := (.bool true)) 16 80 rfl (by kernel_rfl) (by kernel_rfl) (by kernel_rfl) (by kernel_rfl) (fun _ _ _ h => h) hS8 (fun _ => trivial) rfl rfl (fun w' hq => ?h16) ?_
  case h16 => go_simp; first | rfl | (simp; done) | skip
  try simp only [Act.put, List.setIfInBounds_toArray, List.set_cons_zero, List.set_cons_succ, List.getElem_toArray, List.getElem_cons_succ, List.getElem_cons_zero]
  refine take_Sd (v := ?v17) 17 81 rfl (by kernel_rfl) (by kernel_rfl) (by kernel_rfl) (by kernel_rfl) (fun _ _ _ h => h) hS8 (fun _ => trivial) rfl rfl (fun w' hq => ?h17) ?_
  case h17 => go_simp; try with_reducible rfl
  try simp only [Act.put, List.setIfInBounds_toArray, List.set_cons_zero, List.set_cons_succ, List.getElem_toArray, List.getElem_cons_succ, List.getElem_cons_zero]
  refine take_Sd (v := ?v18) 18 82 rfl (by kernel_rfl) (by kernel_rfl) (by kernel_rfl) (by kernel_rfl) (fun _ _ _ h => h) hS8 (fun _ => trivial) rfl rfl (fun w' hq => ?h18) ?_
  case h18 => go_simp; try with_reducible rfl
  try simp only [Act.put, List.setIfInBounds_toArray, List.set_cons_zero, List.set_cons_succ, List.getElem_toArray, List.getElem_cons_succ, List.getElem_cons_zero]
  refine take_Sd (v := ?v19) 19 83 rfl (by kernel_rfl) (by kernel_rfl) (by kernel_rfl) (by kernel_rfl) (fun _ _ _ h => h) hS8 (fun _ => trivial) rfl rfl (fun w' hq => ?h19) ?_
  case h19 => go_simp; try with_reducible rfl
  try simp only [Act.put, List.setIfInBounds_toArray, List.set_cons_zero, List.set_cons_succ, List.getElem_toArray, List.getElem_cons_succ, List.getElem_cons_zero]
  refine take_Sd (v := ?v20) 20 84 rfl (by kernel_rfl) (by kernel_rfl) (by kernel_rfl) (by kernel_rfl) (fun _ _ _ h => h) hS8 (fun _ => trivial) rfl rfl (fun w' hq => ?h20) ?_
  case h20 => go_simp; try with_reducible rfl
  try simp only [Act.put, List.setIfInBounds_toArray, List.set_cons_zero, List.set_cons_succ, List.getElem_toArray, List.getElem_cons_succ, List.getElem_cons_zero]
  refine take_Sd (v := (.bool true)) 21 85 rfl (by kernel_rfl) (by kernel_rfl) (by kernel_rfl) (by kernel_rfl) (fun _ _ _ h => h) hS8 (fun _ => trivial) rfl rfl (fun w' hq => ?h21) ?_
  case h21 => go_simp; first | rfl | (simp; done) | skip
  try simp only [Act.put, List.setIfInBounds_toArray, List.set_cons_zero, List.set_cons_succ, List.getElem_toArray, List.getElem_cons_succ, List.getElem_cons_zero]
  refine take_Sd (v := ?v22) 22 86 rfl (by kernel_rfl) (by kernel_rfl) (by kernel_rfl) (by kernel_rfl) (fun _ _ _ h => h) hS8 (fun _ => trivial) rfl rfl (fun w' hq => ?h22) ?_
  case h22 => go_simp; try with_reducible rfl
  try simp only [Act.put, List.setIfInBounds_toArray, List.set_cons_zero, List.set_cons_succ, List.getElem_toArray, List.getElem_cons_succ, List.getElem_cons_zero]
  refine take_Sd (v := ?v23) 23 87 rfl (by kernel_rfl) (by kernel_rfl) (by kernel_rfl) (by kernel_rfl) (fun _ _ _ h => h) hS8 (fun _ => trivial) rfl rfl (fun w' hq => ?h23) ?_
  case h23 => go_simp; try with_reducible rfl
  try simp only [Act.put, List.setIfInBounds_toArray, List.set_cons_zero, List.set_cons_succ, List.getElem_toArray, List.getElem_cons_succ, List.getElem_cons_zero]
  refine take_Sd (v := ?v24) 24 88 rfl (by kernel_rfl) (by kernel_rfl) (by kernel_rfl) (by kernel_rfl) (fun _ _ _ h => h) hS8 (fun _ => trivial) rfl rfl (fun w' hq => ?h24) ?_
  case h24 => go_simp; try with_reducible rfl
  try simp only [Act.put, List.setIfInBounds_toArray, List.set_cons_zero, List.set_cons_succ, List.getElem_toArray, List.getElem_cons_succ, List.getElem_cons_zero]
  refine take_Sd (v := ?v25) 25 89 rfl (by kernel_rfl) (by kernel_rfl) (by kernel_rfl) (by kernel_rfl) (fun _ _ _ h => h) hS8 (fun _ => trivial) rfl rfl (fun w' hq => ?h25) ?_
  case h25 => go_simp; try with_reducible rfl
  try simp only [Act.put, List.setIfInBounds_toArray, List.set_cons_zero, List.set_cons_succ, List.getElem_toArray, List.getElem_cons_succ, List.getElem_cons_zero]
  refine take_Sd (v := (.bool true)) 26 90 rfl (by kernel_rfl) (by kernel_rfl) (by kernel_rfl) (by kernel_rfl) (fun _ _ _ h => h) hS8 (fun _ => trivial) rfl rfl (fun w' hq => ?h26) ?_
  case h26 => go_simp; first | rfl | (simp; done) | skip
  try simp only [Act.put, List.setIfInBounds_toArray, List.set_cons_zero, List.set_cons_succ, List.getElem_toArray, List.getElem_cons_succ, List.getElem_cons_zero]
  refine take_Sd (v := ?v27) 27 91 rfl (by kernel_rfl) (by kernel_rfl) (by kernel_rfl) (by kernel_rfl) (fun _ _ _ h => h) hS8 (fun _ => trivial) rfl rfl (fun w' hq => ?h27) ?_
  case h27 => go_simp; try with_reducible rfl
  try simp only [Act.put, List.setIfInBounds_toArray, List.set_cons_zero, List.set_cons_succ, List.getElem_toArray, List.getElem_cons_succ, List.getElem_cons_zero]
  refine take_Sd (v := ?v28) 28 92 rfl (by kernel_rfl) (by kernel_rfl) (by kernel_rfl) (by kernel_rfl) (fun _ _ _ h => h) hS8 (fun _ => trivial) rfl rfl (fun w' hq => ?h28) ?_
  case h28 => go_simp; try with_reducible rfl
  try simp only [Act.put, List.setIfInBounds_toArray, List.set_cons_zero, List.set_cons_succ, List.getElem_toArray, List.getElem_cons_succ, List.getElem_cons_zero]
  refine take_Sd (v := ?v29) 29 93 rfl (by kernel_rfl) (by kernel_rfl) (by kernel_rfl) (by kernel_rfl) (fun _ _ _ h => h) hS8 (fun _ => trivial) rfl rfl (fun w' hq => ?h29) ?_
  case h29 => go_simp; try with_reducible rfl
  try simp only [Act.put, List.setIfInBounds_toArray, List.set_cons_zero, List.set_cons_succ, List.getElem_toArray, List.getElem_cons_succ, List.getElem_cons_zero]
  refine take_Sd (v := ?v31) 31 95 rfl (by kernel_rfl) (by kernel_rfl) (by kernel_rfl) (by kernel_rfl) (fun _ _ _ h => h) hS8 (fun _ => trivial) rfl rfl (fun w' hq => ?h31) ?_
  case h31 => go_simp; try with_reducible rfl
  try simp only [Act.put, List.setIfInBounds_toArray, List.set_cons_zero, List.set_cons_succ, List.getElem_toArray, List.getElem_cons_succ, List.getElem_cons_zero]
  refine take_Sd (v := ?v32) 32 96 rfl (by kernel_rfl) (by kernel_rfl) (by kernel_rfl) (by kernel_rfl) (fun _ _ _ h => h) hS8 (fun _ => trivial) rfl rfl (fun w' hq => ?h32) ?_
  case h32 => go_simp; try with_reducible rfl
  try simp only [Act.put, List.setIfInBounds_toArray, List.set_cons_zero, List.set_cons_succ, List.getElem_toArray, List.getElem_cons_succ, List.getElem_cons_zero]
  refine take_Sd (v := ?v33) 33 97 rfl (by kernel_rfl) (by kernel_rfl) (by kernel_rfl) (by kernel_rfl) (fun _ _ _ h => h) hS8 (fun _ => trivial) rfl rfl (fun w' hq => ?h33) ?_
  case h33 => go_simp; try with_reducible rfl
  try simp only [Act.put, List.setIfInBounds_toArray, List.set_cons_zero, List.set_cons_succ, List.getElem_toArray, List.getElem_cons_succ, List.getElem_cons_zero]
  refine take_Sd (v := ?v34) 34 98 rfl (by kernel_rfl) (by kernel_rfl) (by kernel_rfl) (by kernel_rfl) (fun _ _ _ h => h) hS8 (fun _ => trivial) rfl rfl (fun w' hq => ?h34) ?_
  case h34 => obtain ⟨q0, q1, q2, q3, q4, q5, q6, q7, q8, q9, qa, qb, qc, qd, -⟩ := hq; change _ = some _ at qc; go_simp; try with_reducible rfl
  try simp only [Act.put, List.setIfInBounds_toArray, List.set_cons_zero, List.set_cons_succ, List.getElem_toArray, List.getElem_cons_succ, List.getElem_cons_zero]
  refine one_D 30 rfl (by kernel_rfl) (fun KQ hK => ?_)
  go_simp
  refine (log_Base HT8.out.kL).mono ?_
  rintro x _ ⟨rfl, rfl⟩
  have HT9 := HT8
  have hS9 := hS8
  clear HT8 hS8
  refine hK.out _ _ hS9 (fun _ => trivial) ?_
  clear hK
  refine take_Sd (v := (.bool true)) 35 99 rfl (by kernel_rfl) (by kernel_rfl) (by kernel_rfl) (by kernel_rfl) (fun _ _ _ h => h) hS9 (fun _ => trivial) rfl rfl (fun w' hq => ?h35) ?_
  case h35 => go_simp; first | rfl | (simp; done) | skip
  try simp only [Act.put, List.setIfInBounds_toArray, List.set_cons_zero, List.set_cons_succ, List.getElem_toArray, List.getElem_cons_succ, List.getElem_cons_zero]
  refine take_Sd (v := ?v36) 36 100 rfl (by kernel_rfl) (by kernel_rfl) (by kernel_rfl) (by kernel_rfl) (fun _ _ _ h => h) hS9 (fun _ => trivial) rfl rfl (fun w' hq => ?h36) ?_
  case h36 => go_simp; try with_reducible rfl
  try simp only [Act.put, List.setIfInBounds_toArray, List.set_cons_zero, List.set_cons_succ, List.getElem_toArray, List.getElem_cons_succ, List.getElem_cons_zero]
  refine take_Sd (v := ?v37) 37 101 rfl (by kernel_rfl) (by kernel_rfl) (by kernel_rfl) (by kernel_rfl) (fun _ _ _ h => h) hS9 (fun _ => trivial) rfl rfl (fun w' hq => ?h37) ?_
  case h37 => go_simp; try with_reducible rfl
  try simp only [Act.put, List.setIfInBounds_toArray, List.set_cons_zero, List.set_cons_succ, List.getElem_toArray, List.getElem_cons_succ, List.getElem_cons_zero]
  refine take_Sd (v := ?v38) 38 102 rfl (by kernel_rfl) (by kernel_rfl) (by kernel_rfl) (by kernel_rfl) (fun _ _ _ h => h) hS9 (fun _ => trivial) rfl rfl (fun w' hq => ?h38) ?_
  case h38 => go_simp; try with_reducible rfl
  try simp only [Act.put, List.setIfInBounds_toArray, List.set_cons_zero, List.set_cons_succ, List.getElem_toArray, List.getElem_cons_succ, List.getElem_cons_zero]
  refine take_Sd (v := ?v40) 40 104 rfl (by kernel_rfl) (by kernel_rfl) (by kernel_rfl) (by kernel_rfl) (fun _ _ _ h => h) hS9 (fun _ => trivial) rfl rfl (fun w' hq => ?h40) ?_
  case h40 => go_simp; try with_reducible rfl
  try simp only [Act.put, List.setIfInBounds_toArray, List.set_cons_zero, List.set_cons_succ, List.getElem_toArray, List.getElem_cons_succ, List.getElem_cons_zero]
  refine one_D 39 rfl (by kernel_rfl) (fun KQ hK => ?_)
  go_simp
  refine (log_Op HT9.out.kL Hok.out.low Hok.out.high Hok.out.len).mono ?_
  rintro x _ ⟨rfl, rfl⟩
  have HT10 := HT9
  have hS10 := hS9
  clear HT9 hS9
  refine hK.out _ _ hS10 (fun _ => trivial) ?_
  clear hK
  refine one_D 41 rfl (by kernel_rfl) (fun KQ hK => ?_)
  go_simp
  refine (ref_Op HT10.out.R Hok.out.len).mono ?_
  rintro x w10 ⟨rfl, hb⟩
  have hS11 := Holds.below hS10 hb
  have HT11 := Lib.hid (HT10.out.below hb)
  clear HT10 hS10 hb
  refine hK.out _ _ hS11 (fun _ => trivial) ?_
  clear hK
  refine take_Sd (v := (.bool true)) 42 106 rfl (by kernel_rfl) (by kernel_rfl) (by kernel_rfl) (by kernel_rfl) (fun _ _ _ h => h) hS11 (fun _ => trivial) rfl rfl (fun w' hq => ?h42) ?_
  case h42 => go_simp; first | rfl | (simp; done) | skip
  try simp only [Act.put, List.setIfInBounds_toArray, List.set_cons_zero, List.set_cons_succ, List.getElem_toArray, List.getElem_cons_succ, List.getElem_cons_zero]
  refine take_Sd (v := ?v43) 43 107 rfl (by kernel_rfl) (by kernel_rfl) (by kernel_rfl) (by kernel_rfl) (fun _ _ _ h => h) hS11 (fun _ => trivial) rfl rfl (fun w' hq => ?h43) ?_
  case h43 => go_simp; try with_reducible rfl
  try simp only [Act.put, List.setIfInBounds_toArray, List.set_cons_zero, List.set_cons_succ, List.getElem_toArray, List.getElem_cons_succ, List.getElem_cons_zero]
  refine take_Sd (v := ?v44) 44 108 rfl (by kernel_rfl) (by kernel_rfl) (by kernel_rfl) (by kernel_rfl) (fun _ _ _ h => h) hS11 (fun _ => trivial) rfl rfl (fun w' hq => ?h44) ?_
  case h44 => go_simp; try with_reducible rfl
  try simp only [Act.put, List.setIfInBounds_toArray, List.set_cons_zero, List.set_cons_succ, List.getElem_toArray, List.getElem_cons_succ, List.getElem_cons_zero]
  refine take_Sd (v := ?v45) 45 109 rfl (by kernel_rfl) (by kernel_rfl) (by kernel_rfl) (by kernel_rfl) (fun _ _ _ h => h) hS11 (fun _ => trivial) rfl rfl (fun w' hq => ?h45) ?_
  case h45 => go_simp; try with_reducible rfl
  try simp only [Act.put, List.setIfInBounds_toArray, List.set_cons_zero, List.set_cons_succ, List.getElem_toArray, List.getElem_cons_succ, List.getElem_cons_zero]
  refine take_Sd (v := ?v47) 47 111 rfl (by kernel_rfl) (by kernel_rfl) (by kernel_rfl) (by kernel_rfl) (fun _ _ _ h => h) hS11 (fun _ => trivial) rfl rfl (fun w' hq => ?h47) ?_
  case h47 => go_simp; try with_reducible rfl
  try simp only [Act.put, List.setIfInBounds_toArray, List.set_cons_zero, List.set_cons_succ, List.getElem_toArray, List.getElem_cons_succ, List.getElem_cons_zero]
  refine take_Sd (v := ?v48) 48 112 rfl (by kernel_rfl) (by kernel_rfl) (by kernel_rfl) (by kernel_rfl) (fun _ _ _ h => h) hS11 (fun _ => trivial) rfl rfl (fun w' hq => ?h48) ?_
  case h48 => go_simp; try with_reducible rfl
  try simp only [Act.put, List.setIfInBounds_toArray, List.set_cons_zero, List.set_cons_succ, List.getElem_toArray, List.getElem_cons_succ, List.getElem_cons_zero]
  refine take_Sd (v := ?v49) 49 113 rfl (by kernel_rfl) (by kernel_rfl) (by kernel_rfl) (by kernel_rfl) (fun _ _ _ h => h) hS11 (fun _ => trivial) rfl rfl (fun w' hq => ?h49) ?_
  case h49 => go_simp; try with_reducible rfl
  try simp only [Act.put, List.setIfInBounds_toArray, List.set_cons_zero, List.set_cons_succ, List.getElem_toArray, List.getElem_cons_succ, List.getElem_cons_zero]
  refine take_Sd (v := ?v50) 50 114 rfl (by kernel_rfl) (by kernel_rfl) (by kernel_rfl) (by kernel_rfl) (fun _ _ _ h => h) hS11 (fun _ => trivial) rfl rfl (fun w' hq => ?h50) ?_
  case h50 => obtain ⟨q0, q1, q2, q3, q4, q5, q6, q7, q8, q9, qa, qb, qc, qd, -⟩ := hq; change _ = some _ at qd; go_simp; try with_reducible rfl
  try simp only [Act.put, List.setIfInBounds_toArray, List.set_cons_zero, List.set_cons_succ, List.getElem_toArray, List.getElem_cons_succ, List.getElem_cons_zero]
  refine take_Sd (v := ?v51) 51 115 rfl (by kernel_rfl) (by kernel_rfl) (by kernel_rfl) (by kernel_rfl) (fun _ _ _ h => h) hS11 (fun _ => trivial) rfl rfl (fun w' hq => ?h51) ?_
  case h51 => go_simp; try with_reducible rfl
  try simp only [Act.put, List.setIfInBounds_toArray, List.set_cons_zero, List.set_cons_succ, List.getElem_toArray, List.getElem_cons_succ, List.getElem_cons_zero]
  refine one_D 46 rfl (by kernel_rfl) (fun KQ hK => ?_)
  go_simp
  refine (log_Len HT11.out.kL).mono ?_
  rintro x _ ⟨rfl, rfl⟩
  have HT12 := HT11
  have hS12 := hS11
  clear HT11 hS11
  refine hK.out _ _ hS12 (fun _ => trivial) ?_
  clear hK
  refine take_Sd (v := (.bool true)) 52 116 rfl (by kernel_rfl) (by kernel_rfl) (by kernel_rfl) (by kernel_rfl) (fun _ _ _ h => h) hS12 (fun _ => trivial) rfl rfl (fun w' hq => ?h52) ?_
  case h52 => go_simp; first | rfl | (simp; done) | skip
  try simp only [Act.put, List.setIfInBounds_toArray, List.set_cons_zero, List.set_cons_succ, List.getElem_toArray, List.getElem_cons_succ, List.getElem_cons_zero]
  refine take_Sd (v := ?v53) 53 117 rfl (by kernel_rfl) (by kernel_rfl) (by kernel_rfl) (by kernel_rfl) (fun _ _ _ h => h) hS12 (fun _ => trivial) rfl rfl (fun w' hq => ?h53) ?_
  case h53 => go_simp; try with_reducible rfl
  try simp only [Act.put, List.setIfInBounds_toArray, List.set_cons_zero, List.set_cons_succ, List.getElem_toArray, List.getElem_cons_succ, List.getElem_cons_zero]
  refine take_Sd (v := ?v54) 54 118 rfl (by kernel_rfl) (by kernel_rfl) (by kernel_rfl) (by kernel_rfl) (fun _ _ _ h => h) hS12 (fun _ => trivial) rfl rfl (fun w' hq => ?h54) ?_
  case h54 => go_simp; try with_reducible rfl
  try simp only [Act.put, List.setIfInBounds_toArray, List.set_cons_zero, List.set_cons_succ, List.getElem_toArray, List.getElem_cons_succ, List.getElem_cons_zero]
  refine take_Sd (v := ?v55) 55 119 rfl (by kernel_rfl) (by kernel_rfl) (by kernel_rfl) (by kernel_rfl) (fun _ _ _ h => h) hS12 (fun _ => trivial) rfl rfl (fun w' hq => ?h55) ?_
  case h55 => obtain ⟨q0, q1, q2, q3, q4, q5, q6, q7, q8, q9, qa, qb, qc, qd, -⟩ := hq; change _ = some _ at q0; change _ = some _ at q1; change _ = some _ at q2; change _ = some _ at q3; go_simp; try with_reducible rfl
  try simp only [Act.put, List.setIfInBounds_toArray, List.set_cons_zero, List.set_cons_succ, List.getElem_toArray, List.getElem_cons_succ, List.getElem_cons_zero]
  refine take_Sd (v := ?v56) 56 120 rfl (by kernel_rfl) (by kernel_rfl) (by kernel_rfl) (by kernel_rfl) (fun _ _ _ h => h) hS12 (fun _ => trivial) rfl rfl (fun w' hq => ?h56) ?_
  case h56 => obtain ⟨q0, q1, q2, q3, q4, q5, q6, q7, q8, q9, qa, qb, qc, qd, -⟩ := hq; change _ = some _ at q4; change _ = some _ at q5; change _ = some _ at q6; change _ = some _ at q7; go_simp; try with_reducible rfl
  try simp only [Act.put, List.setIfInBounds_toArray, List.set_cons_zero, List.set_cons_succ, List.getElem_toArray, List.getElem_cons_succ, List.getElem_cons_zero]
  refine one_D 57 rfl (by kernel_rfl) (fun KQ hK => ?_)
  go_simp
  refine (log_Same (e := ge) (f := ge) HT12.out.rA.choose_spec HT12.out.rB.choose_spec).mono ?_
  rintro x w12 ⟨rfl, hb⟩
  rw [sameB_self]
  have hS13 := Holds.below hS12 hb
  have HT13 := Lib.hid (HT12.out.below hb)
  clear HT12 hS12 hb
  refine hK.out _ _ hS13 (fun _ => trivial) ?_
  clear hK
  refine take_Sd (v := ?v58) 58 122 rfl (by kernel_rfl) (by kernel_rfl) (by kernel_rfl) (by kernel_rfl) (fun _ _ _ h => h) hS13 (fun _ => trivial) rfl rfl (fun w' hq => ?h58) ?_
  case h58 => go_simp; try with_reducible rfl
  try simp only [Act.put, List.setIfInBounds_toArray, List.set_cons_zero, List.set_cons_succ, List.getElem_toArray, List.getElem_cons_succ, List.getElem_cons_zero]
  refine take_Sd (v := ?v59) 59 123 rfl (by kernel_rfl) (by kernel_rfl) (by kernel_rfl) (by kernel_rfl) (fun _ _ _ h => h) hS13 (fun _ => trivial) rfl rfl (fun w' hq => ?h59) ?_
  case h59 => go_simp; try with_reducible rfl
  try simp only [Act.put, List.setIfInBounds_toArray, List.set_cons_zero, List.set_cons_succ, List.getElem_toArray, List.getElem_cons_succ, List.getElem_cons_zero]
  refine take_Sd (v := ?v60) 60 124 rfl (by kernel_rfl) (by kernel_rfl) (by kernel_rfl) (by kernel_rfl) (fun _ _ _ h => h) hS13 (fun _ => trivial) rfl rfl (fun w' hq => ?h60) ?_
  case h60 => obtain ⟨q0, q1, q2, q3, q4, q5, q6, q7, q8, q9, qa, qb, qc, qd, -⟩ := hq; change _ = some _ at q0; change _ = some _ at q1; change _ = some _ at q2; change _ = some _ at q3; go_simp; try with_reducible rfl
  try simp only [Act.put, List.setIfInBounds_toArray, List.set_cons_zero, List.set_cons_succ, List.getElem_toArray, List.getElem_cons_succ, List.getElem_cons_zero]
  refine take_Sd (v := ?v61) 61 125 rfl (by kernel_rfl) (by kernel_rfl) (by kernel_rfl) (by kernel_rfl) (fun _ _ _ h => h) hS13 (fun _ => trivial) rfl rfl (fun w' hq => ?h61) ?_
  case h61 => obtain ⟨q0, q1, q2, q3, q4, q5, q6, q7, q8, q9, qa, qb, qc, qd, -⟩ := hq; change _ = some _ at q8; change _ = some _ at q9; change _ = some _ at qa; change _ = some _ at qb; go_simp; try with_reducible rfl
  try simp only [Act.put, List.setIfInBounds_toArray, List.set_cons_zero, List.set_cons_succ, List.getElem_toArray, List.getElem_cons_succ, List.getElem_cons_zero]
  refine take_Sd (v := ?v63) 63 127 rfl (by kernel_rfl) (by kernel_rfl) (by kernel_rfl) (by kernel_rfl) (fun _ _ _ h => h) hS13 (fun _ => trivial) rfl rfl (fun w' hq => ?h63) ?_
  case h63 => obtain ⟨q0, q1, q2, q3, q4, q5, q6, q7, q8, q9, qa, qb, qc, qd, -⟩ := hq; change _ = some _ at q0; change _ = some _ at q1; change _ = some _ at q2; change _ = some _ at q3; go_simp; try with_reducible rfl
  try simp only [Act.put, List.setIfInBounds_toArray, List.set_cons_zero, List.set_cons_succ, List.getElem_toArray, List.getElem_cons_succ, List.getElem_cons_zero]
  refine take_Sd (v := ?v64) 64 128 rfl (by kernel_rfl) (by kernel_rfl) (by kernel_rfl) (by kernel_rfl) (fun _ _ _ h => h) hS13 (fun _ => trivial) rfl rfl (fun w' hq => ?h64) ?_
  case h64 => obtain ⟨q0, q1, q2, q3, q4, q5, q6, q7, q8, q9, qa, qb, qc, qd, -⟩ := hq; change _ = some _ at q8; change _ = some _ at q9; change _ = some _ at qa; change _ = some _ at qb; go_simp; try with_reducible rfl
  try simp only [Act.put, List.setIfInBounds_toArray, List.set_cons_zero, List.set_cons_succ, List.getElem_toArray, List.getElem_cons_succ, List.getElem_cons_zero]
  refine one_D 62 rfl (by kernel_rfl) (fun KQ hK => ?_)
  go_simp
  refine (log_Same (e := ge) (f := eo) HT13.out.rA.choose_spec HT13.out.rO).mono ?_
  rintro x w13 ⟨rfl, hb⟩
  have hS14 := Holds.below hS13 hb
  have HT14 := Lib.hid (HT13.out.below hb)
  clear HT13 hS13 hb
  refine hK.out _ _ hS14 (fun _ => trivial) ?_
  clear hK
  refine one_D 65 rfl (by kernel_rfl) (fun KQ hK => ?_)
  go_simp
  refine (ref_Same (e := ge) (f := eo) HT14.out.rA.choose_spec HT14.out.rO).mono ?_
  rintro x w14 ⟨rfl, hb⟩
  have hS15 := Holds.below hS14 hb
  have HT15 := Lib.hid (HT14.out.below hb)
  clear HT14 hS14 hb
  refine hK.out _ _ hS15 (fun _ => trivial) ?_
  clear hK
  refine take_Sd (v := (.bool true)) 66 130 rfl (by kernel_rfl) (by kernel_rfl) (by kernel_rfl) (by kernel_rfl) (fun _ _ _ h => h) hS15 (fun _ => trivial) rfl rfl (fun w' hq => ?h66) ?_
  case h66 => go_simp; first | rfl | (simp; done) | skip
  try simp only [Act.put, List.setIfInBounds_toArray, List.set_cons_zero, List.set_cons_succ, List.getElem_toArray, List.getElem_cons_succ, List.getElem_cons_zero]
  refine take_Sd (v := ?v67) 67 131 rfl (by kernel_rfl) (by kernel_rfl) (by kernel_rfl) (by kernel_rfl) (fun _ _ _ h => h) hS15 (fun _ => trivial) rfl rfl (fun w' hq => ?h67) ?_
  case h67 => go_simp; try with_reducible rfl
  try simp only [Act.put, List.setIfInBounds_toArray, List.set_cons_zero, List.set_cons_succ, List.getElem_toArray, List.getElem_cons_succ, List.getElem_cons_zero]
  refine take_Sd (v := ?v68) 68 21 rfl (by kernel_rfl) (by kernel_rfl) (by kernel_rfl) (by kernel_rfl) (fun _ _ _ h => h) hS15 (fun _ => trivial) rfl rfl (fun w' hq => ?h68) ?_
  case h68 => go_simp; try with_reducible rfl
  try simp only [Act.put, List.setIfInBounds_toArray, List.set_cons_zero, List.set_cons_succ, List.getElem_toArray, List.getElem_cons_succ, List.getElem_cons_zero]
  refine done_D (by kernel_rfl) ?_ _
  clear hS15
  go_wp2_with fail
  refine (spoil_any (SpE.own HT15.out.eC) rfl (by omega) Hlf.out).mono ?_
  rintro x w15 ⟨rfl, hE⟩
  have hz := Hz.out
  have kA := HT15.out.kA.ext hE (by omega)
  have HA := Lib.hid (HT15.out.hA.ext hE (fun j h1 _ h2 => by omega) (fun _ h _ => h))
  have HX := Lib.hid (Ext.from HT15.out.X hE (fun j h => by omega))
  obtain ⟨a0, a1, a2, a3, -⟩ := kA.c4
  clear HT15 hE hz kA
  go_wp2_with fail
  refine (spoil_any (SpE.one HA.out rfl) rfl (by simp) (fun e he => by simp at he; subst he; exact hgl)).mono ?_
  rintro x w16 ⟨rfl, hE⟩
  have HX16 := Lib.hid (Ext.from (HX.out.alloc HX.out.size (.cells #[.int .u64 ge.t, .int .u32 ge.c, .int .u64 ge.r, .slice p1 ge.cmd.length c1] 33)) hE (fun j h => h.1))
  clear hE
  go_wp2_with fail
  go_ret
  exact ⟨rfl, HX16.out⟩
end Go.Proofs.Ytmoifhoncanjjaa
