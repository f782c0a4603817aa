/-
  CmdPuts' walk: it returns true. Condition: the table reads as the program lays it. (Printed by wip/gen_puts15.py.)
-/
import Derived.Test.YtciojggkcmdjiaaDoorPutsY15
namespace Go.Proofs.YtciojggkcmdjiaaDoor
open Go.RowKit
set_option linter.unusedSimpArgs false
set_option linter.unusedVariables false

set_option maxHeartbeats 25600000 in
set_option maxRecDepth 100000 in
theorem puts_walk {w : World} {p : Option Addr} {c : Nat} {kind doc rev pos : Int} {name : List UInt8} {us : List Ut} {va vo : Value} {a o : An} (hF : Forms w) (h : UtsRd w (fun j => j < w.heap.size) (.slice p us.length c) us) (hw : WfC ⟨kind, doc, name, rev, pos, us⟩)
    (ha : AnV w (fun j => j < w.heap.size) va a) (ho : AnV w (fun j => j < w.heap.size) vo o) (hwa : WfR a) (hwo : WfR o) :
    Calls Tryd.prog 4 #[.agg #[.int .i64 kind, .int .u32 doc, .string ⟨name.toArray⟩, .int .u64 rev, .int .i64 pos, .slice p us.length c], va, vo] w fun x w' => x = .returned (.bool true) ∧ Below w.heap.size w w' := by
  obtain ⟨nm, hnm⟩ : ∃ x, name.take 100 = x := ⟨_, rfl⟩
  obtain ⟨vs, hvs⟩ : ∃ x, us.take 300 = x := ⟨_, rfl⟩
  obtain ⟨hU, hv300, hvl⟩ := h.front_ hvs
  have hnl : nm.length ≤ 100 ∧ nm.length ≤ name.length := by rw [← hnm, List.length_take]; omega
  have Hw := Lib.hid (show WfC ⟨kind, doc, nm, rev, pos, vs⟩ from ⟨hw.doc, hw.rev, fun u hu => hw.us u (by
    have : u ∈ us.take 300 := by rw [hvs]; exact hu
    exact List.mem_of_mem_take this)⟩)
  have hcap : us.length ≤ c ∧ c ≤ maxLen := by obtain ⟨_, ⟨_, _, _, h, h1, h2, _⟩, _⟩ := h; injection h with _ _ h; subst h; exact ⟨h1, h2⟩
  unfold maxLen at hcap
  have Hnl := Lib.hid (show nm.length ≤ 1000000 by omega)
  have Hvl := Lib.hid (show vs.length ≤ 300 from hv300)
  have es : (ByteArray.mk name.toArray).size = name.length := by simp [ByteArray.size]
  have q1 : (if (100 : Int) < (name.length : Int) then (100 : Int) else (name.length : Int)) = (nm.length : Int) := by rw [← hnm, List.length_take]; split <;> omega
  have q2 : (if (300 : Int) < (us.length : Int) then (300 : Int) else (us.length : Int)) = (vs.length : Int) := by rw [← hvs, List.length_take]; split <;> omega
  have q4 : (ByteArray.mk name.toArray).extract 0 nm.length = ByteArray.mk nm.toArray := by
    rw [← hnm]
    apply ByteArray.ext
    rw [ByteArray.data_extract]
    apply Array.ext'
    simp [List.length_take]
  have x1 : (nm.length : Int) ≤ (name.length : Int) := by omega
  have x2 : (vs.length : Int) ≤ (c : Int) := by omega
  obtain ⟨p1, c1, q1_, d1, s1, e1, rfl⟩ := ha.form
  obtain ⟨p2, c2, q2_, d2, s2, e2, rfl⟩ := ho.form
  have hb1 := (Below.refl w.heap.size w).alloc (Nat.le_refl _) (.cells #[.int .i64 kind, .int .u32 doc, .string ⟨name.toArray⟩, .int .u64 rev, .int .i64 pos, .slice p us.length c] 26)
  have hb2 := hb1.alloc hb1.size (.cells #[.int .i64 a.err, .int .u32 a.doc, .int .u64 a.rev, .bool a.whole, .slice p1 a.text.length c1, .slice q1_ a.ops.length d1, .slice s1 a.seats.length e1] 41)
  have hb3 := hb2.alloc hb2.size (.cells #[.int .i64 o.err, .int .u32 o.doc, .int .u64 o.rev, .bool o.whole, .slice p2 o.text.length c2, .slice q2_ o.ops.length d2, .slice s2 o.seats.length e2] 41)
  have hb12 := (Below.refl (w.alloc (.cells #[.int .i64 kind, .int .u32 doc, .string ⟨name.toArray⟩, .int .u64 rev, .int .i64 pos, .slice p us.length c] 26)).heap.size (w.alloc (.cells #[.int .i64 kind, .int .u32 doc, .string ⟨name.toArray⟩, .int .u64 rev, .int .i64 pos, .slice p us.length c] 26))).alloc (Nat.le_refl _) (.cells #[.int .i64 a.err, .int .u32 a.doc, .int .u64 a.rev, .bool a.whole, .slice p1 a.text.length c1, .slice q1_ a.ops.length d1, .slice s1 a.seats.length e1] 41)
  have hb13 := hb12.alloc hb12.size (.cells #[.int .i64 o.err, .int .u32 o.doc, .int .u64 o.rev, .bool o.whole, .slice p2 o.text.length c2, .slice q2_ o.ops.length d2, .slice s2 o.seats.length e2] 41)
  have hb23 := (Below.refl ((w.alloc (.cells #[.int .i64 kind, .int .u32 doc, .string ⟨name.toArray⟩, .int .u64 rev, .int .i64 pos, .slice p us.length c] 26)).alloc (.cells #[.int .i64 a.err, .int .u32 a.doc, .int .u64 a.rev, .bool a.whole, .slice p1 a.text.length c1, .slice q1_ a.ops.length d1, .slice s1 a.seats.length e1] 41)).heap.size ((w.alloc (.cells #[.int .i64 kind, .int .u32 doc, .string ⟨name.toArray⟩, .int .u64 rev, .int .i64 pos, .slice p us.length c] 26)).alloc (.cells #[.int .i64 a.err, .int .u32 a.doc, .int .u64 a.rev, .bool a.whole, .slice p1 a.text.length c1, .slice q1_ a.ops.length d1, .slice s1 a.seats.length e1] 41))).alloc (Nat.le_refl _) (.cells #[.int .i64 o.err, .int .u32 o.doc, .int .u64 o.rev, .bool o.whole, .slice p2 o.text.length c2, .slice q2_ o.ops.length d2, .slice s2 o.seats.length e2] 41)
  have HK3 := Lib.hid ((Blk.new w 26 #[.int .i64 kind, .int .u32 doc, .string ⟨name.toArray⟩, .int .u64 rev, .int .i64 pos, .slice p us.length c]).below hb13)
  have k4 := (Blk.new (w.alloc (.cells #[.int .i64 kind, .int .u32 doc, .string ⟨name.toArray⟩, .int .u64 rev, .int .i64 pos, .slice p us.length c] 26)) 41 #[.int .i64 a.err, .int .u32 a.doc, .int .u64 a.rev, .bool a.whole, .slice p1 a.text.length c1, .slice q1_ a.ops.length d1, .slice s1 a.seats.length e1]).below hb23
  have k5 := Blk.new ((w.alloc (.cells #[.int .i64 kind, .int .u32 doc, .string ⟨name.toArray⟩, .int .u64 rev, .int .i64 pos, .slice p us.length c] 26)).alloc (.cells #[.int .i64 a.err, .int .u32 a.doc, .int .u64 a.rev, .bool a.whole, .slice p1 a.text.length c1, .slice q1_ a.ops.length d1, .slice s1 a.seats.length e1] 41)) 41 #[.int .i64 o.err, .int .u32 o.doc, .int .u64 o.rev, .bool o.whole, .slice p2 o.text.length c2, .slice q2_ o.ops.length d2, .slice s2 o.seats.length e2]
  rw [World.size_alloc] at k4 k5
  rw [World.size_alloc] at k5
  have HK4 := Lib.hid k4
  have HK5 := Lib.hid k5
  have HB := Lib.hid hb3
  have HU := Lib.hid hU
  have HF := Lib.hid hF
  have HA := Lib.hid ha
  have HO := Lib.hid ho
  have HwA := Lib.hid hwa.few
  have HwO := Lib.hid hwo.few
  clear hF h hw hnm hvs hU hnl hvl hcap hb1 hb2 hb3 hb12 hb13 hb23 ha ho hwa hwo k4 k5
  go_enter Tryd.func4, Tryd.ntmps4
  go_upto_region 1 with fail
  generalize (((w.alloc (.cells #[.int .i64 kind, .int .u32 doc, .string ⟨name.toArray⟩, .int .u64 rev, .int .i64 pos, .slice p us.length c] 26)).alloc (.cells #[.int .i64 a.err, .int .u32 a.doc, .int .u64 a.rev, .bool a.whole, .slice p1 a.text.length c1, .slice q1_ a.ops.length d1, .slice s1 a.seats.length e1] 41)).alloc (.cells #[.int .i64 o.err, .int .u32 o.doc, .int .u64 o.rev, .bool o.whole, .slice p2 o.text.length c2, .slice q2_ o.ops.length d2, .slice s2 o.seats.length e2] 41)) = W1 at *
  obtain ⟨m0, m1, m2, m3, m4, m5, mf, hz⟩ := HK3.out.c6
  have f2 := mf 2
  have f5 := mf 5
  clear mf
  go_region
  have hb2 : Below w.heap.size w (((W1.setCell ⟨w.heap.size, 2, none⟩ (.string ⟨nm.toArray⟩)).setCell ⟨w.heap.size, 5, none⟩ (.slice p vs.length c)).drew) := ((HB.out.setCell (p := ⟨w.heap.size, 2, none⟩) (Nat.le_refl _) _).setCell (p := ⟨w.heap.size, 5, none⟩) (Nat.le_refl _) _).drew
  have HK3b := Lib.hid (show Blk (((W1.setCell ⟨w.heap.size, 2, none⟩ (.string ⟨nm.toArray⟩)).setCell ⟨w.heap.size, 5, none⟩ (.slice p vs.length c)).drew) w.heap.size 26 #[.int .i64 kind, .int .u32 doc, .string ⟨nm.toArray⟩, .int .u64 rev, .int .i64 pos, .slice p vs.length c] from by
    have := (HK3.out.set_ 2 (.string ⟨nm.toArray⟩)).set_ 5 (.slice p vs.length c)
    exact Blk.drew (by simpa using this))
  have HK4b := Lib.hid (Blk.drew ((HK4.out.far (p := ⟨w.heap.size, 2, none⟩) (by simp) (.string ⟨nm.toArray⟩)).far (p := ⟨w.heap.size, 5, none⟩) (by simp) (.slice p vs.length c)))
  have HK5b := Lib.hid (Blk.drew ((HK5.out.far (p := ⟨w.heap.size, 2, none⟩) (by simp; omega) (.string ⟨nm.toArray⟩)).far (p := ⟨w.heap.size, 5, none⟩) (by simp; omega) (.slice p vs.length c)))
  have HB2 := Lib.hid hb2
  clear hb2 m0 m1 m2 m3 m4 m5 hz f2 f5 q1 q2 q4 x1 x2 es HK3 HK4 HK5 HB
  generalize ((W1.setCell ⟨w.heap.size, 2, none⟩ (.string ⟨nm.toArray⟩)).setCell ⟨w.heap.size, 5, none⟩ (.slice p vs.length c)).drew = W2 at *
  have HA2 := Lib.hid (HA.out.below HB2.out)
  have HO2 := Lib.hid (HO.out.below HB2.out)
  clear HA HO
  have hK := HK4b.out
  have m0 := hK.cell 0
  have m1 := hK.cell 1
  have m2 := hK.cell 2
  have m3 := hK.cell 3
  have m4 := hK.cell 4
  have m5 := hK.cell 5
  have m6 := hK.cell 6
  have hz := hK.lt
  simp only [List.getElem?_toArray, List.getElem?_cons_succ, List.getElem?_cons_zero] at m0 m1 m2 m3 m4 m5 m6
  clear hK
  have hK := HK5b.out
  have n0 := hK.cell 0
  have n1 := hK.cell 1
  have n2 := hK.cell 2
  have n3 := hK.cell 3
  have n4 := hK.cell 4
  have n5 := hK.cell 5
  have n6 := hK.cell 6
  have hy := hK.lt
  simp only [List.getElem?_toArray, List.getElem?_cons_succ, List.getElem?_cons_zero] at n0 n1 n2 n3 n4 n5 n6
  clear hK
  go_wp2_with fail
  have hS : Hold0 W2.drew := trivial
  have hT : Holds [(w.heap.size + 1 + 1, 0, .int .i64 o.err), (w.heap.size + 1 + 1, 1, .int .u32 o.doc), (w.heap.size + 1 + 1, 2, .int .u64 o.rev), (w.heap.size + 1 + 1, 3, .bool o.whole), (w.heap.size + 1 + 1, 4, .slice p2 o.text.length c2), (w.heap.size + 1 + 1, 5, .slice q2_ o.ops.length d2), (w.heap.size + 1 + 1, 6, .slice s2 o.seats.length e2)] W2.drew := ⟨n0, n1, n2, n3, n4, n5, n6, trivial⟩
  refine begin_D [5] (by kernel_rfl) hS (fun _ => hT) ?_
  refine take_T (v := ?v2) 2 rfl (by kernel_rfl) (by kernel_rfl) (by kernel_rfl) (by kernel_rfl) (by kernel_rfl) (by kernel_rfl) (fun _ _ _ h => h) hS (fun _ => hT) rfl (fun w' hq hr => ?h2) ?_
  case h2 => obtain ⟨hr0, hr1, hr2, hr3, hr4, hr5, hr6, -⟩ := hr; change _ = some _ at hr0; change _ = some _ at hr1; change _ = some _ at hr2; change _ = some _ at hr3; change _ = some _ at hr4; change _ = some _ at hr5; change _ = some _ at hr6; go_simp; try with_reducible rfl
  try simp only [Act.put, List.setIfInBounds_toArray, List.set_cons_zero, List.set_cons_succ, List.getElem_toArray, List.getElem_cons_succ, List.getElem_cons_zero]
  refine one_D 0 rfl (by kernel_rfl) (fun KQ hK => ?_)
  go_simp
  refine hK.out _ _ hS (fun _ => hT) ?_
  clear hK
  refine one_D 1 rfl (by kernel_rfl) (fun KQ hK => ?_)
  go_simp
  refine (law_Few (HA2.out.below (Below.refl _ W2).drew)).mono ?_
  rintro _ w3 ⟨v1, rfl, hv, hb⟩
  have hb3 := (Below.refl W2.heap.size W2).drew.trans hb
  have HB3 := Lib.hid (HB2.out.trans (hb3.mono HB2.out.size))
  have HK3c := Lib.hid (HK3b.out.below hb3)
  have HK4c := Lib.hid (HK4b.out.below hb3)
  have HK5c := Lib.hid (HK5b.out.below hb3)
  have HO3 := Lib.hid (HO2.out.below hb3)
  have Hsz := Lib.hid (show w.heap.size + 1 + 1 < W2.heap.size ∧ W2.heap.size ≤ w3.heap.size from ⟨HK5b.out.lt, hb3.size⟩)
  have HV1 := Lib.hid (show AnV w3 (fun j => j < w.heap.size ∨ (W2.heap.size ≤ j ∧ j < w3.heap.size)) v1 (fewA a) from hv)
  clear hS hT hv hb hb3 m0 m1 m2 m3 m4 m5 m6 hz n0 n1 n2 n3 n4 n5 n6 hy HK3b HK4b HK5b HA2 HO2 HB2
  have hK := HK5c.out
  have n0 := hK.cell 0
  have n1 := hK.cell 1
  have n2 := hK.cell 2
  have n3 := hK.cell 3
  have n4 := hK.cell 4
  have n5 := hK.cell 5
  have n6 := hK.cell 6
  have hy := hK.lt
  simp only [List.getElem?_toArray, List.getElem?_cons_succ, List.getElem?_cons_zero] at n0 n1 n2 n3 n4 n5 n6
  clear hK
  have hS : Hold0 w3 := trivial
  have hT : Holds [(w.heap.size + 1 + 1, 0, .int .i64 o.err), (w.heap.size + 1 + 1, 1, .int .u32 o.doc), (w.heap.size + 1 + 1, 2, .int .u64 o.rev), (w.heap.size + 1 + 1, 3, .bool o.whole), (w.heap.size + 1 + 1, 4, .slice p2 o.text.length c2), (w.heap.size + 1 + 1, 5, .slice q2_ o.ops.length d2), (w.heap.size + 1 + 1, 6, .slice s2 o.seats.length e2)] w3 := ⟨n0, n1, n2, n3, n4, n5, n6, trivial⟩
  refine hK.out _ _ hS (fun _ => hT) ?_
  clear hK hS hT n0 n1 n2 n3 n4 n5 n6 hy
  refine one_D 3 rfl (by kernel_rfl) (fun KQ hK => ?_)
  go_simp
  refine (law_Few HO3.out).mono ?_
  rintro _ w4 ⟨v2, rfl, hv, hb⟩
  have HB4 := Lib.hid (HB3.out.trans (hb.mono HB3.out.size))
  have HK3d := Lib.hid (HK3c.out.below hb)
  have HK4d := Lib.hid (HK4c.out.below hb)
  have HK5d := Lib.hid (HK5c.out.below hb)
  have HV1b := Lib.hid (HV1.out.below hb)
  have HV2 := Lib.hid (show AnV w4 (fun j => j < w.heap.size ∨ (w3.heap.size ≤ j ∧ j < w4.heap.size)) v2 (fewA o) from hv)
  have Hsz2 := Lib.hid (show w3.heap.size ≤ w4.heap.size from hb.size)
  clear hv hb HB3 HK3c HK4c HK5c HV1 HO3
  obtain ⟨a', ha'⟩ : ∃ x, fewA a = x := ⟨_, rfl⟩
  obtain ⟨o', ho'⟩ : ∃ x, fewA o = x := ⟨_, rfl⟩
  rw [ha'] at HV1b HwA
  rw [ho'] at HV2 HwO
  clear ha' ho'
  obtain ⟨p3, c3, q3, d3, s3, e3, rfl⟩ := HV1b.out.form
  obtain ⟨p4, c4, q4, d4, s4, e4, rfl⟩ := HV2.out.form
  have hK := HK4d.out
  have m0 := hK.cell 0
  have m1 := hK.cell 1
  have m2 := hK.cell 2
  have m3 := hK.cell 3
  have m4 := hK.cell 4
  have m5 := hK.cell 5
  have m6 := hK.cell 6
  have hz := hK.lt
  simp only [List.getElem?_toArray, List.getElem?_cons_succ, List.getElem?_cons_zero] at m0 m1 m2 m3 m4 m5 m6
  clear hK
  have hK := HK5d.out
  have n0 := hK.cell 0
  have n1 := hK.cell 1
  have n2 := hK.cell 2
  have n3 := hK.cell 3
  have n4 := hK.cell 4
  have n5 := hK.cell 5
  have n6 := hK.cell 6
  have hy := hK.lt
  simp only [List.getElem?_toArray, List.getElem?_cons_succ, List.getElem?_cons_zero] at n0 n1 n2 n3 n4 n5 n6
  clear hK
  have mf := fun i => HK4d.out.frozen i
  have hS : Hold0 w4 := trivial
  have hT : Holds [(w.heap.size + 1 + 1, 0, .int .i64 o.err), (w.heap.size + 1 + 1, 1, .int .u32 o.doc), (w.heap.size + 1 + 1, 2, .int .u64 o.rev), (w.heap.size + 1 + 1, 3, .bool o.whole), (w.heap.size + 1 + 1, 4, .slice p2 o.text.length c2), (w.heap.size + 1 + 1, 5, .slice q2_ o.ops.length d2), (w.heap.size + 1 + 1, 6, .slice s2 o.seats.length e2)] w4 := ⟨n0, n1, n2, n3, n4, n5, n6, trivial⟩
  refine hK.out _ _ hS (fun _ => hT) ?_
  clear hK hS hT n0 n1 n2 n3 n4 n5 n6 hy
  refine one_D 4 rfl (by kernel_rfl) (fun KQ hK => ?_)
  go_simp
  have hS4 := Blk.set7 HK4d.out (.int .i64 a'.err) (.int .u32 a'.doc) (.int .u64 a'.rev) (.bool a'.whole) (.slice p3 a'.text.length c3) (.slice q3 a'.ops.length d3) (.slice s3 a'.seats.length e3)
  have hE4 := set7_ext w4 (w.heap.size + 1) (.int .i64 a'.err) (.int .u32 a'.doc) (.int .u64 a'.rev) (.bool a'.whole) (.slice p3 a'.text.length c3) (.slice q3 a'.ops.length d3) (.slice s3 a'.seats.length e3)
  unfold set7 at hS4 hE4
  have HK3e := Lib.hid (HK3d.out.ext hE4 (by omega))
  have HK5e := Lib.hid (HK5d.out.ext hE4 (by omega))
  have HK4e := Lib.hid hS4
  have HE4 := Lib.hid hE4
  clear hS4 hE4 m0 m1 m2 m3 m4 m5 m6 hz mf HK3d HK4d HK5d
  generalize (((((((w4.setCell ⟨w.heap.size + 1, 0, none⟩ (.int .i64 a'.err)).setCell ⟨w.heap.size + 1, 1, none⟩ (.int .u32 a'.doc)).setCell ⟨w.heap.size + 1, 2, none⟩ (.int .u64 a'.rev)).setCell ⟨w.heap.size + 1, 3, none⟩ (.bool a'.whole)).setCell ⟨w.heap.size + 1, 4, none⟩ (.slice p3 a'.text.length c3)).setCell ⟨w.heap.size + 1, 5, none⟩ (.slice q3 a'.ops.length d3)).setCell ⟨w.heap.size + 1, 6, none⟩ (.slice s3 a'.seats.length e3)) = w5 at *
  have hK := HK5e.out
  have n0 := hK.cell 0
  have n1 := hK.cell 1
  have n2 := hK.cell 2
  have n3 := hK.cell 3
  have n4 := hK.cell 4
  have n5 := hK.cell 5
  have n6 := hK.cell 6
  have hy := hK.lt
  simp only [List.getElem?_toArray, List.getElem?_cons_succ, List.getElem?_cons_zero] at n0 n1 n2 n3 n4 n5 n6
  clear hK
  have nf := fun i => HK5e.out.frozen i
  have hS : Hold0 w5 := trivial
  have hT : Holds [(w.heap.size + 1 + 1, 0, .int .i64 o.err), (w.heap.size + 1 + 1, 1, .int .u32 o.doc), (w.heap.size + 1 + 1, 2, .int .u64 o.rev), (w.heap.size + 1 + 1, 3, .bool o.whole), (w.heap.size + 1 + 1, 4, .slice p2 o.text.length c2), (w.heap.size + 1 + 1, 5, .slice q2_ o.ops.length d2), (w.heap.size + 1 + 1, 6, .slice s2 o.seats.length e2)] w5 := ⟨n0, n1, n2, n3, n4, n5, n6, trivial⟩
  refine hK.out _ _ hS (fun _ => hT) ?_
  clear hK hS hT
  refine one_D 5 rfl (by kernel_rfl) (fun KQ hK => ?_)
  go_simp
  have hS4 := Blk.set7 HK5e.out (.int .i64 o'.err) (.int .u32 o'.doc) (.int .u64 o'.rev) (.bool o'.whole) (.slice p4 o'.text.length c4) (.slice q4 o'.ops.length d4) (.slice s4 o'.seats.length e4)
  have hE4 := set7_ext w5 (w.heap.size + 1 + 1) (.int .i64 o'.err) (.int .u32 o'.doc) (.int .u64 o'.rev) (.bool o'.whole) (.slice p4 o'.text.length c4) (.slice q4 o'.ops.length d4) (.slice s4 o'.seats.length e4)
  unfold set7 at hS4 hE4
  have HK3f := Lib.hid (HK3e.out.ext hE4 (by omega))
  have HK4f := Lib.hid (HK4e.out.ext hE4 (by omega))
  have HK5f := Lib.hid hS4
  have HE5 := Lib.hid hE4
  clear hS4 hE4 n0 n1 n2 n3 n4 n5 n6 hy nf HK3e HK4e HK5e
  generalize (((((((w5.setCell ⟨w.heap.size + 1 + 1, 0, none⟩ (.int .i64 o'.err)).setCell ⟨w.heap.size + 1 + 1, 1, none⟩ (.int .u32 o'.doc)).setCell ⟨w.heap.size + 1 + 1, 2, none⟩ (.int .u64 o'.rev)).setCell ⟨w.heap.size + 1 + 1, 3, none⟩ (.bool o'.whole)).setCell ⟨w.heap.size + 1 + 1, 4, none⟩ (.slice p4 o'.text.length c4)).setCell ⟨w.heap.size + 1 + 1, 5, none⟩ (.slice q4 o'.ops.length d4)).setCell ⟨w.heap.size + 1 + 1, 6, none⟩ (.slice s4 o'.seats.length e4)) = w6 at *
  refine hK.out _ _ trivial (fun h => Bool.noConfusion (show false = true from h)) ?_
  clear hK
  refine done_D (by kernel_rfl) ?_ _
  have hb6 : Below w.heap.size w w6 := Ext.from HB4.out ((HE4.out.mono (M' := fun j => w.heap.size ≤ j) (fun k _ hk => by omega)).trans (HE5.out.mono (M' := fun j => w.heap.size ≤ j) (fun k _ hk => by omega))) (fun j hj => hj)
  have Hs6 := Lib.hid (show w3.heap.size ≤ w6.heap.size ∧ w4.heap.size ≤ w6.heap.size ∧ w.heap.size ≤ w6.heap.size by
    have h1 := HE4.out.size
    have h2 := HE5.out.size
    have h3 := Hsz2.out
    have h4 := hb6.size
    omega)
  have hc : Car w w6 p c vs [(.agg #[.int .i64 a'.err, .int .u32 a'.doc, .int .u64 a'.rev, .bool a'.whole, .slice p3 a'.text.length c3, .slice q3 a'.ops.length d3, .slice s3 a'.seats.length e3], a'), (.agg #[.int .i64 o'.err, .int .u32 o'.doc, .int .u64 o'.rev, .bool o'.whole, .slice p4 o'.text.length c4, .slice q4 o'.ops.length d4, .slice s4 o'.seats.length e4], o')]
      [(w.heap.size, 26, #[.int .i64 kind, .int .u32 doc, .string ⟨nm.toArray⟩, .int .u64 rev, .int .i64 pos, .slice p vs.length c]), (w.heap.size + 1, 41, #[.int .i64 a'.err, .int .u32 a'.doc, .int .u64 a'.rev, .bool a'.whole, .slice p3 a'.text.length c3, .slice q3 a'.ops.length d3, .slice s3 a'.seats.length e3]), (w.heap.size + 1 + 1, 41, #[.int .i64 o'.err, .int .u32 o'.doc, .int .u64 o'.rev, .bool o'.whole, .slice p4 o'.text.length c4, .slice q4 o'.ops.length d4, .slice s4 o'.seats.length e4])] [] := by
    have hs := Hsz.out
    have hs2 := Hsz2.out
    refine ⟨hb6, HF.out.below hb6, (HU.out.below hb6).into (fun j hj => Nat.lt_of_lt_of_le hj hb6.size), ?_, ?_, fun x hx => by cases hx⟩
    · intro x hx
      rcases List.mem_cons.1 hx with rfl | hx
      · exact ((HV1b.out.ext HE4.out (fun j hj e => by omega)).ext HE5.out (fun j hj e => by omega)).into (fun j hj => by have := Hs6.out; omega)
      · rcases List.mem_cons.1 hx with rfl | hx
        · exact ((HV2.out.ext HE4.out (fun j hj e => by omega)).ext HE5.out (fun j hj e => by omega)).into (fun j hj => by have := Hs6.out; omega)
        · cases hx
    · intro x hx
      rcases List.mem_cons.1 hx with rfl | hx
      · exact HK3f.out
      · rcases List.mem_cons.1 hx with rfl | hx
        · exact HK4f.out
        · rcases List.mem_cons.1 hx with rfl | hx
          · exact HK5f.out
          · cases hx
  have HC0 := Lib.hid hc
  clear hc hb6 HK3f HK4f HK5f HV1b HV2 HE4 HE5 HB4 HU
  generalize Value.agg #[.int .i64 kind, .int .u32 doc, .string ⟨name.toArray⟩, .int .u64 rev, .int .i64 pos, .slice p us.length c] = X0
  generalize Value.agg #[.int .i64 a.err, .int .u32 a.doc, .int .u64 a.rev, .bool a.whole, .slice p1 a.text.length c1, .slice q1_ a.ops.length d1, .slice s1 a.seats.length e1] = X1
  generalize Value.agg #[.int .i64 o.err, .int .u32 o.doc, .int .u64 o.rev, .bool o.whole, .slice p2 o.text.length c2, .slice q2_ o.ops.length d2, .slice s2 o.seats.length e2] = X2
  generalize Value.agg #[.int .i64 a'.err, .int .u32 a'.doc, .int .u64 a'.rev, .bool a'.whole, .slice p3 a'.text.length c3, .slice q3 a'.ops.length d3, .slice s3 a'.seats.length e3] = X3
  generalize Value.agg #[.int .i64 o'.err, .int .u32 o'.doc, .int .u64 o'.rev, .bool o'.whole, .slice p4 o'.text.length c4, .slice q4 o'.ops.length d4, .slice s4 o'.seats.length e4] = X4
  refine Kept.out (‹Kept (∀ a w, Code.wp _ _ _ a w → _)›) _ _ ?_
  refine puts_rest (fun _ _ d _ _ h => by cases d <;> exact h) HC0.out Hvl.out Hnl.out Hw.out HwA.out HwO.out ?_
  intro a9 w9 hd9 h69 hb9
  exact bodyPost_ret_by (by rw [results_tmp (t := 6) rfl, h69]) hd9 ⟨rfl, hb9⟩
end Go.Proofs.YtciojggkcmdjiaaDoor
