/-
  CmdPuts from its third statement on, over a written-out frame. (Printed by wip/gen_putsy15.py.)
-/
import Derived.Test.YtciojggkcmdjiaaDoorPutsZ15
namespace Go.Proofs.YtciojggkcmdjiaaDoor
open Go.RowKit
set_option linter.unusedSimpArgs false
set_option linter.unusedVariables false

def isRegion (n : Nat) : Code → Bool
  | .region k _ _ => decide (k = n)
  | _ => false
/-- What begins at the region of this number. -/
def fromRegion (n : Nat) : Code → Option Code
  | .seq a b => match isRegion n a with
    | true => some (.seq a b)
    | false => fromRegion n b
  | _ => none
noncomputable def restText : Code := ((Tryd.f4.body.bind (fromRegion 3)).getD .skip)
set_option maxHeartbeats 25600000 in
set_option maxRecDepth 1000000 in
theorem puts_rest {w0 w6 : World} {b3 b4 b5 : Nat} {p p3 q3 s3 p4 q4 s4 : Option Addr} {c c3 d3 e3 c4 d4 e4 : Nat} {kind doc rev pos : Int} {nm : List UInt8} {vs : List Ut} {a' o' : An} {Q : Exit → Act → World → Prop} {x0 x1 x2 x6 x7 x8 x9 x10 x11 x12 x13 x14 x15 x16 x17 x18 x19 x20 x21 x22 x23 x24 x25 x26 x27 x28 x29 x30 x31 x32 x33 x34 x35 x36 x37 x38 x39 x40 x41 x42 x43 x44 x45 x46 x47 x48 x49 x50 x51 x52 x53 x54 x55 x56 x57 x58 x59 x60 x61 x62 x63 x64 x65 x66 x67 x68 x69 x70 x71 x72 x73 x74 x75 x76 x77 x78 x79 x80 x81 x82 x83 x84 x85 x86 x87 x88 x89 x90 x91 x92 x93 x94 x95 x96 x97 x98 x99 x100 x101 x102 x103 x104 x105 x106 x107 x108 x109 x110 x111 x112 x113 x114 x115 x116 x117 x118 x119 x120 x121 x122 x123 x124 x125 x126 x127 x128 x129 x130 x131 x132 x133 x134 x135 x136 : Value}
    (hQ : ∀ c (a : Act) d v w, Q (.panic c) (a.put d v) w → Q (.panic c) a w)
    (hc : Car w0 w6 p c vs [(.agg #[.int .i64 a'.err, .int .u32 a'.doc, .int .u64 a'.rev, .bool a'.whole, .slice p3 a'.text.length c3, .slice q3 a'.ops.length d3, .slice s3 a'.seats.length e3], a'), (.agg #[.int .i64 o'.err, .int .u32 o'.doc, .int .u64 o'.rev, .bool o'.whole, .slice p4 o'.text.length c4, .slice q4 o'.ops.length d4, .slice s4 o'.seats.length e4], o')] [(b3, 26, #[.int .i64 kind, .int .u32 doc, .string ⟨nm.toArray⟩, .int .u64 rev, .int .i64 pos, .slice p vs.length c]), (b4, 41, #[.int .i64 a'.err, .int .u32 a'.doc, .int .u64 a'.rev, .bool a'.whole, .slice p3 a'.text.length c3, .slice q3 a'.ops.length d3, .slice s3 a'.seats.length e3]), (b5, 41, #[.int .i64 o'.err, .int .u32 o'.doc, .int .u64 o'.rev, .bool o'.whole, .slice p4 o'.text.length c4, .slice q4 o'.ops.length d4, .slice s4 o'.seats.length e4])] [])
    (hvl : vs.length ≤ 300) (hnl : nm.length ≤ 1000000) (hw : WfC ⟨kind, doc, nm, rev, pos, vs⟩) (hwa : WfA a') (hwo : WfA o')
    (hm : ∀ (a : Act) (w' : World), a.defers = [] → a.tmps.getD 6 undef = .bool true → Below w0.heap.size w0 w' → Q .ret a w') :
    Code.wp Tryd.prog restText Q ⟨#[x0, x1, x2, .pointer (some ⟨b3, 0, none⟩), .pointer (some ⟨b4, 0, none⟩), .pointer (some ⟨b5, 0, none⟩), x6, x7, x8, x9, x10, x11, x12, x13, x14, x15, x16, x17, x18, x19, x20, x21, x22, x23, x24, x25, x26, x27, x28, x29, x30, x31, x32, x33, x34, x35, x36, x37, x38, x39, x40, x41, x42, x43, x44, x45, x46, x47, x48, x49, x50, x51, x52, x53, x54, x55, x56, x57, x58, x59, x60, x61, x62, x63, x64, x65, x66, x67, x68, x69, x70, x71, x72, x73, x74, x75, x76, x77, x78, x79, x80, x81, x82, x83, x84, x85, x86, x87, x88, x89, x90, x91, x92, x93, x94, x95, x96, x97, x98, x99, x100, x101, x102, x103, x104, x105, x106, x107, x108, x109, x110, x111, x112, x113, x114, x115, x116, x117, x118, x119, x120, x121, x122, x123, x124, x125, x126, x127, x128, x129, x130, x131, x132, x133, x134, x135, x136], []⟩ w6 := by
  have HC0 := Lib.hid hc
  have Hvl := Lib.hid hvl
  have Hnl := Lib.hid hnl
  have Hw := Lib.hid hw
  have HwA := Lib.hid hwa
  have HwO := Lib.hid hwo
  have Hm := Lib.hid hm
  have HQ := Lib.hid hQ
  clear hc hvl hnl hw hwa hwo hm hQ
  conv => arg 2; whnf
  have hK := (HC0.out.blk _ (.head _))
  have m0 := hK.cell 0
  have m1 := hK.cell 1
  have m2 := hK.cell 2
  have m3 := hK.cell 3
  have m4 := hK.cell 4
  have m5 := hK.cell 5
  have hz := hK.lt
  simp only [List.getElem?_toArray, List.getElem?_cons_succ, List.getElem?_cons_zero] at m0 m1 m2 m3 m4 m5
  clear hK
  go_wp2_with fail
  have hba := (Below.refl w6.heap.size w6).alloc (Nat.le_refl _) (.cells #[.int .u32 doc, .int .u32 doc, .int .u64 rev, .int .u32 0, .int .u64 0, .slice p vs.length c, .bool false] 48)
  have HC1 := Lib.hid ((HC0.out.next hba).block (Blk.new w6 48 #[.int .u32 doc, .int .u32 doc, .int .u64 rev, .int .u32 0, .int .u64 0, .slice p vs.length c, .bool false]))
  clear hba HC0 m0 m1 m2 m3 m4 m5 hz
  generalize w6.alloc (.cells #[.int .u32 doc, .int .u32 doc, .int .u64 rev, .int .u32 0, .int .u64 0, .slice p vs.length c, .bool false] 48) = W7 at *
  generalize w6.heap.size = bn at *
  have hvl2 : vs.length ≤ 1000000 := by have := Hvl.out; omega
  have hnl2 : nm.length ≤ 1000000 := Hnl.out
  have HwN := Lib.hid (show WfN doc doc rev ⟨0, 0, vs, false⟩ from ⟨Hw.out.doc, Hw.out.doc, Hw.out.rev, ⟨⟨Int.le_refl _, (by decide : (0 : Int) ≤ 4294967295)⟩, ⟨Int.le_refl _, (by decide : (0 : Int) ≤ 18446744073709551615)⟩, Hw.out.us, Hvl.out⟩⟩)
  obtain ⟨l1, hll1⟩ : ∃ x, bytesOr (mayCm ⟨kind, doc, nm, rev, pos, vs⟩) (cmBytes ⟨kind, doc, nm, rev, pos, vs⟩) = x := ⟨_, rfl⟩
  obtain ⟨k1, hel1⟩ : ∃ x, errOr (mayCm ⟨kind, doc, nm, rev, pos, vs⟩) = x := ⟨_, rfl⟩
  have Hll1 := Lib.hid hll1
  have Hel1 := Lib.hid hel1
  clear hll1 hel1
  have hcall := (cmd_PutCmd HC1.out.forms HC1.out.uts (fun j hj => hj) hvl2 hnl2 Hw.out rfl).mono fun x w' hR => PutR.u hR
  rw [Hll1.out, Hel1.out] at hcall
  refine hcall.mono ?_
  clear hcall
  rintro _ y1 ⟨z1, g1, rfl, ho, hb⟩
  generalize Value.agg #[.int .i64 kind, .int .u32 doc, .string ⟨nm.toArray⟩, .int .u64 rev, .int .i64 pos, .slice p vs.length c] = XX1
  have HC2 := Lib.hid ((HC1.out.next hb).bytes ho)
  clear ho hb HC1
  have hK := (HC2.out.blk _ (.tail _ (.head _)))
  have m0 := hK.cell 0
  have m1 := hK.cell 1
  have m2 := hK.cell 2
  have m3 := hK.cell 3
  have m4 := hK.cell 4
  have m5 := hK.cell 5
  have hz := hK.lt
  simp only [List.getElem?_toArray, List.getElem?_cons_succ, List.getElem?_cons_zero] at m0 m1 m2 m3 m4 m5
  clear hK
  go_wp2_with fail
  clear m0 m1 m2 m3 m4 m5 hz
  have hcall := (ref15_PutCmd HC2.out.uts hvl2 hnl2 Hw.out rfl).mono fun x w' hR => PutR.u hR
  rw [Hll1.out, Hel1.out] at hcall
  refine hcall.mono ?_
  clear hcall
  rintro _ y2 ⟨z2, g2, rfl, ho, hb⟩
  generalize Value.agg #[.int .i64 kind, .int .u32 doc, .string ⟨nm.toArray⟩, .int .u64 rev, .int .i64 pos, .slice p vs.length c] = XX2
  have HC3 := Lib.hid ((HC2.out.next hb).bytes ho)
  clear ho hb HC2
  have hK := (HC3.out.blk _ (.tail _ (.tail _ (.head _))))
  have m0 := hK.cell 0
  have m1 := hK.cell 1
  have m2 := hK.cell 2
  have m3 := hK.cell 3
  have m4 := hK.cell 4
  have m5 := hK.cell 5
  have m6 := hK.cell 6
  have hz := hK.lt
  simp only [List.getElem?_toArray, List.getElem?_cons_succ, List.getElem?_cons_zero] at m0 m1 m2 m3 m4 m5 m6
  clear hK
  go_wp2_with fail
  clear m0 m1 m2 m3 m4 m5 m6 hz
  have hpa := (HC3.out.ans _ (.head _)).parts
  have HPA := Lib.hid hpa
  clear hpa
  obtain ⟨l2, hll2⟩ : ∃ x, bytesOr (mayAn a') (anBytes a') = x := ⟨_, rfl⟩
  obtain ⟨k2, hel2⟩ : ∃ x, errOr (mayAn a') = x := ⟨_, rfl⟩
  have Hll2 := Lib.hid hll2
  have Hel2 := Lib.hid hel2
  clear hll2 hel2
  have hcall := (cmd_PutAnswer HPA.out.1 HPA.out.2.1 HPA.out.2.2 (fun j hj => hj) HwA.out rfl).mono fun x w' hR => PutR.u hR
  rw [Hll2.out, Hel2.out] at hcall
  refine hcall.mono ?_
  clear hcall
  rintro _ y3 ⟨z3, g3, rfl, ho, hb⟩
  generalize Value.agg #[.int .i64 a'.err, .int .u32 a'.doc, .int .u64 a'.rev, .bool a'.whole, .slice p3 a'.text.length c3, .slice q3 a'.ops.length d3, .slice s3 a'.seats.length e3] = XX3
  have HC4 := Lib.hid ((HC3.out.next hb).bytes ho)
  clear ho hb HC3 HPA
  have hK := (HC4.out.blk _ (.tail _ (.tail _ (.head _))))
  have m0 := hK.cell 0
  have m1 := hK.cell 1
  have m2 := hK.cell 2
  have m3 := hK.cell 3
  have m4 := hK.cell 4
  have m5 := hK.cell 5
  have m6 := hK.cell 6
  have hz := hK.lt
  simp only [List.getElem?_toArray, List.getElem?_cons_succ, List.getElem?_cons_zero] at m0 m1 m2 m3 m4 m5 m6
  clear hK
  go_wp2_with fail
  clear m0 m1 m2 m3 m4 m5 m6 hz
  have hpa := (HC4.out.ans _ (.head _)).parts
  have HPA := Lib.hid hpa
  clear hpa
  have hcall := (ref15_PutAnswer HPA.out.1 HPA.out.2.1 HPA.out.2.2 HwA.out rfl).mono fun x w' hR => PutR.u hR
  rw [Hll2.out, Hel2.out] at hcall
  refine hcall.mono ?_
  clear hcall
  rintro _ y4 ⟨z4, g4, rfl, ho, hb⟩
  generalize Value.agg #[.int .i64 a'.err, .int .u32 a'.doc, .int .u64 a'.rev, .bool a'.whole, .slice p3 a'.text.length c3, .slice q3 a'.ops.length d3, .slice s3 a'.seats.length e3] = XX4
  have HC5 := Lib.hid ((HC4.out.next hb).bytes ho)
  clear ho hb HC4 HPA
  have hK := (HC5.out.blk _ (.head _))
  have m0 := hK.cell 0
  have m1 := hK.cell 1
  have m2 := hK.cell 2
  have m3 := hK.cell 3
  have m4 := hK.cell 4
  have m5 := hK.cell 5
  have m6 := hK.cell 6
  have hz := hK.lt
  simp only [List.getElem?_toArray, List.getElem?_cons_succ, List.getElem?_cons_zero] at m0 m1 m2 m3 m4 m5 m6
  clear hK
  go_wp2_with fail
  clear m0 m1 m2 m3 m4 m5 m6 hz
  obtain ⟨l3, hll3⟩ : ∃ x, bytesOr (mayNo rev ⟨0, 0, vs, false⟩) (noBytes doc doc rev ⟨0, 0, vs, false⟩) = x := ⟨_, rfl⟩
  obtain ⟨k3, hel3⟩ : ∃ x, errOr (mayNo rev ⟨0, 0, vs, false⟩) = x := ⟨_, rfl⟩
  have Hll3 := Lib.hid hll3
  have Hel3 := Lib.hid hel3
  clear hll3 hel3
  have hcall := (cmd_PutNotice (o := ⟨0, 0, vs, false⟩) HC5.out.uts (fun j hj => hj) HwN.out rfl).mono fun x w' hR => PutR.u hR
  rw [Hll3.out, Hel3.out] at hcall
  refine hcall.mono ?_
  clear hcall
  rintro _ y5 ⟨z5, g5, rfl, ho, hb⟩
  generalize Value.agg #[.int .u32 doc, .int .u32 doc, .int .u64 rev, .int .u32 0, .int .u64 0, .slice p vs.length c, .bool false] = XX5
  have HC6 := Lib.hid ((HC5.out.next hb).bytes ho)
  clear ho hb HC5
  have hK := (HC6.out.blk _ (.head _))
  have m0 := hK.cell 0
  have m1 := hK.cell 1
  have m2 := hK.cell 2
  have m3 := hK.cell 3
  have m4 := hK.cell 4
  have m5 := hK.cell 5
  have m6 := hK.cell 6
  have hz := hK.lt
  simp only [List.getElem?_toArray, List.getElem?_cons_succ, List.getElem?_cons_zero] at m0 m1 m2 m3 m4 m5 m6
  clear hK
  go_wp2_with fail
  clear m0 m1 m2 m3 m4 m5 m6 hz
  have hcall := (ref15_PutNotice (o := ⟨0, 0, vs, false⟩) HC6.out.uts HwN.out rfl).mono fun x w' hR => PutR.u hR
  rw [Hll3.out, Hel3.out] at hcall
  refine hcall.mono ?_
  clear hcall
  rintro _ y6 ⟨z6, g6, rfl, ho, hb⟩
  generalize Value.agg #[.int .u32 doc, .int .u32 doc, .int .u64 rev, .int .u32 0, .int .u64 0, .slice p vs.length c, .bool false] = XX6
  have HC7 := Lib.hid ((HC6.out.next hb).bytes ho)
  clear ho hb HC6
  have hK := (HC7.out.blk _ (.tail _ (.head _)))
  have m0 := hK.cell 0
  have m1 := hK.cell 1
  have m2 := hK.cell 2
  have m3 := hK.cell 3
  have m4 := hK.cell 4
  have m5 := hK.cell 5
  have hz := hK.lt
  simp only [List.getElem?_toArray, List.getElem?_cons_succ, List.getElem?_cons_zero] at m0 m1 m2 m3 m4 m5
  clear hK
  go_wp2_with fail
  clear m0 m1 m2 m3 m4 m5 hz
  have hba := (Below.refl y6.heap.size y6).alloc (Nat.le_refl _) (.cells #[.int .i64 kind, .int .u32 doc, .string ⟨nm.toArray⟩, .int .u64 (IntKind.u64.wrap (rev + 1)), .int .i64 pos, .slice p vs.length c] 26)
  have HC8 := Lib.hid ((HC7.out.next hba).block (Blk.new y6 26 #[.int .i64 kind, .int .u32 doc, .string ⟨nm.toArray⟩, .int .u64 (IntKind.u64.wrap (rev + 1)), .int .i64 pos, .slice p vs.length c]))
  clear hba HC7
  refine puts_last HQ.out HC8.out hvl2 HwA.out HwO.out ?_
  intros
  rename_i w9 hb9
  go_wp2_with fail
  exact Hm.out _ _ rfl rfl hb9
end Go.Proofs.YtciojggkcmdjiaaDoor
