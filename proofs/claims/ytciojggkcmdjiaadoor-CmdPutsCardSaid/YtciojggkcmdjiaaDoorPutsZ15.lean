/-
  CmdPuts' last statement, over a written-out frame: all that it asks is true. (Printed by wip/gen_putsz15.py.)
-/
import Derived.Test.YtciojggkcmdjiaaDoorPutsL15
namespace Go.Proofs.YtciojggkcmdjiaaDoor
open Go.RowKit
set_option linter.unusedSimpArgs false
set_option linter.unusedVariables false

/-- The region of this number. -/
def regionOf (n : Nat) : Code → Option Code
  | .region k ops d => if k = n then some (.region k ops d) else none
  | .block _ c => regionOf n c
  | .seq a b => match regionOf n a with
    | some c => some c
    | none => regionOf n b
  | .loop c => regionOf n c
  | .scope c => regionOf n c
  | .cond _ a b => match regionOf n a with
    | some c => some c
    | none => regionOf n b
  | _ => none
noncomputable def lastText : Code := ((Tryd.f4.body.bind (regionOf 12)).getD .skip)
/-- What the loads of the last statement read. -/
def S12 (b3 b20 b4 b5 : Nat) (k3 k20 k4 k5 : Array Value) (w : World) : Prop := Blk w b3 26 k3 ∧ Blk w b20 26 k20 ∧ Blk w b4 41 k4 ∧ Blk w b5 41 k5
set_option maxHeartbeats 25600000 in
set_option maxRecDepth 1000000 in
theorem puts_last {w0 w : World} {b3 b4 b5 b20 bn : Nat} {p p3 q3 s3 p4 q4 s4 z1 z2 z3 z4 z5 z6 : Option Addr} {c c3 d3 e3 c4 d4 e4 g1 g2 g3 g4 g5 g6 : Nat} {kind doc rev pos k1 k2 k3 : Int} {nm l1 l2 l3 : List UInt8} {vs : List Ut} {a o : An} {K : Act → World → Prop} {Q : Exit → Act → World → Prop} {x0 x1 x2 x6 x21 x22 x23 x24 x25 x26 x27 x28 x29 x30 x31 x32 x33 x34 x35 x36 x37 x38 x39 x40 x41 x42 x43 x44 x45 x46 x47 x48 x49 x50 x51 x52 x53 x54 x55 x56 x57 x58 x59 x60 x61 x62 x63 x64 x65 x66 x67 x68 x69 x70 x71 x72 x73 x74 x75 x76 x77 x78 x79 x80 x81 x82 x83 x84 x85 x86 x87 x88 x89 x90 x91 x92 x93 x94 x95 x96 x97 x98 x99 x100 x101 x102 x103 x104 x105 x106 x107 x108 x109 x110 x111 x112 x113 x114 x115 x116 x117 x118 x119 x120 x121 x122 x123 x124 x125 x126 x127 x128 x129 x130 x131 x132 x133 x134 x135 x136 : Value}
    (hQ : ∀ c (a : Act) d v w, Q (.panic c) (a.put d v) w → Q (.panic c) a w) (hc : Car w0 w p c vs [(.agg #[.int .i64 a.err, .int .u32 a.doc, .int .u64 a.rev, .bool a.whole, .slice p3 a.text.length c3, .slice q3 a.ops.length d3, .slice s3 a.seats.length e3], a), (.agg #[.int .i64 o.err, .int .u32 o.doc, .int .u64 o.rev, .bool o.whole, .slice p4 o.text.length c4, .slice q4 o.ops.length d4, .slice s4 o.seats.length e4], o)] [(b20, 26, #[.int .i64 kind, .int .u32 doc, .string ⟨nm.toArray⟩, .int .u64 (IntKind.u64.wrap (rev + 1)), .int .i64 pos, .slice p vs.length c]), (bn, 48, #[.int .u32 doc, .int .u32 doc, .int .u64 rev, .int .u32 0, .int .u64 0, .slice p vs.length c, .bool false]), (b3, 26, #[.int .i64 kind, .int .u32 doc, .string ⟨nm.toArray⟩, .int .u64 rev, .int .i64 pos, .slice p vs.length c]), (b4, 41, #[.int .i64 a.err, .int .u32 a.doc, .int .u64 a.rev, .bool a.whole, .slice p3 a.text.length c3, .slice q3 a.ops.length d3, .slice s3 a.seats.length e3]), (b5, 41, #[.int .i64 o.err, .int .u32 o.doc, .int .u64 o.rev, .bool o.whole, .slice p4 o.text.length c4, .slice q4 o.ops.length d4, .slice s4 o.seats.length e4])] [(.slice z6 l3.length g6, l3), (.slice z5 l3.length g5, l3), (.slice z4 l2.length g4, l2), (.slice z3 l2.length g3, l2), (.slice z2 l1.length g2, l1), (.slice z1 l1.length g1, l1)]) (hl : vs.length ≤ 1000000) (ha : WfA a) (ho : WfA o)
    (hm : ∀ (u86 u87 u88 u89 u90 u91 u92 u93 u94 u95 u96 u97 u98 u99 u100 u101 u102 u103 u104 u105 u106 u107 u108 u109 u110 u111 u112 u113 u114 u115 u116 u117 u118 u119 u120 u121 u122 u123 u124 u125 u126 u127 u128 u129 u130 u131 u132 u133 u134 u135 u136 : Value) (w' : World), Below w0.heap.size w0 w' → K ⟨#[x0, x1, x2, .pointer (some ⟨b3, 0, none⟩), .pointer (some ⟨b4, 0, none⟩), .pointer (some ⟨b5, 0, none⟩), .bool true, .pointer (some ⟨bn, 0, none⟩), .slice z1 l1.length g1, .int .i64 k1, .slice z2 l1.length g2, .int .i64 k1, .slice z3 l2.length g3, .int .i64 k2, .slice z4 l2.length g4, .int .i64 k2, .slice z5 l3.length g5, .int .i64 k3, .slice z6 l3.length g6, .int .i64 k3, .pointer (some ⟨b20, 0, none⟩), x21, x22, x23, x24, x25, x26, x27, x28, x29, x30, x31, x32, x33, x34, x35, x36, x37, x38, x39, x40, x41, x42, x43, x44, x45, x46, x47, x48, x49, x50, x51, x52, x53, x54, x55, x56, x57, x58, x59, x60, x61, x62, x63, x64, x65, x66, x67, x68, x69, x70, x71, x72, x73, x74, x75, x76, x77, x78, x79, x80, x81, x82, x83, x84, x85, u86, u87, u88, u89, u90, u91, u92, u93, u94, u95, u96, u97, u98, u99, u100, u101, u102, u103, u104, u105, u106, u107, u108, u109, u110, u111, u112, u113, u114, u115, u116, u117, u118, u119, u120, u121, u122, u123, u124, u125, u126, u127, u128, u129, u130, u131, u132, u133, u134, u135, u136], []⟩ w') :
    Code.wp Tryd.prog lastText (Exit.then K Q) ⟨#[x0, x1, x2, .pointer (some ⟨b3, 0, none⟩), .pointer (some ⟨b4, 0, none⟩), .pointer (some ⟨b5, 0, none⟩), x6, .pointer (some ⟨bn, 0, none⟩), .slice z1 l1.length g1, .int .i64 k1, .slice z2 l1.length g2, .int .i64 k1, .slice z3 l2.length g3, .int .i64 k2, .slice z4 l2.length g4, .int .i64 k2, .slice z5 l3.length g5, .int .i64 k3, .slice z6 l3.length g6, .int .i64 k3, .pointer (some ⟨b20, 0, none⟩), x21, x22, x23, x24, x25, x26, x27, x28, x29, x30, x31, x32, x33, x34, x35, x36, x37, x38, x39, x40, x41, x42, x43, x44, x45, x46, x47, x48, x49, x50, x51, x52, x53, x54, x55, x56, x57, x58, x59, x60, x61, x62, x63, x64, x65, x66, x67, x68, x69, x70, x71, x72, x73, x74, x75, x76, x77, x78, x79, x80, x81, x82, x83, x84, x85, x86, x87, x88, x89, x90, x91, x92, x93, x94, x95, x96, x97, x98, x99, x100, x101, x102, x103, x104, x105, x106, x107, x108, x109, x110, x111, x112, x113, x114, x115, x116, x117, x118, x119, x120, x121, x122, x123, x124, x125, x126, x127, x128, x129, x130, x131, x132, x133, x134, x135, x136], []⟩ w := by
  have Hm := Lib.hid hm
  have HA := Lib.hid ha
  have HO := Lib.hid ho
  have HC := Lib.hid (hc.next (Below.refl _ w).drew)
  clear hm ha ho hc
  conv => arg 2; whnf
  have hS : S12 b3 b20 b4 b5 #[.int .i64 kind, .int .u32 doc, .string ⟨nm.toArray⟩, .int .u64 rev, .int .i64 pos, .slice p vs.length c] #[.int .i64 kind, .int .u32 doc, .string ⟨nm.toArray⟩, .int .u64 (IntKind.u64.wrap (rev + 1)), .int .i64 pos, .slice p vs.length c] #[.int .i64 a.err, .int .u32 a.doc, .int .u64 a.rev, .bool a.whole, .slice p3 a.text.length c3, .slice q3 a.ops.length d3, .slice s3 a.seats.length e3] #[.int .i64 o.err, .int .u32 o.doc, .int .u64 o.rev, .bool o.whole, .slice p4 o.text.length c4, .slice q4 o.ops.length d4, .slice s4 o.seats.length e4] w.drew := ⟨HC.out.blk _ (.tail _ (.tail _ (.head _))), HC.out.blk _ (.head _), HC.out.blk _ (.tail _ (.tail _ (.tail _ (.head _)))), HC.out.blk _ (.tail _ (.tail _ (.tail _ (.tail _ (.head _)))))⟩
  refine begin_D (T := Hold0) [] (by kernel_rfl) hS (fun _ => trivial) ?_
  refine one_D 0 rfl (by kernel_rfl) (fun KQ hK => ?_)
  go_simp
  refine (awake_true HC.out.forms).mono ?_
  rintro _ w1 ⟨rfl, hb⟩
  have HC1 := Lib.hid (HC.out.next hb)
  clear hb hS HC
  have hS : S12 b3 b20 b4 b5 #[.int .i64 kind, .int .u32 doc, .string ⟨nm.toArray⟩, .int .u64 rev, .int .i64 pos, .slice p vs.length c] #[.int .i64 kind, .int .u32 doc, .string ⟨nm.toArray⟩, .int .u64 (IntKind.u64.wrap (rev + 1)), .int .i64 pos, .slice p vs.length c] #[.int .i64 a.err, .int .u32 a.doc, .int .u64 a.rev, .bool a.whole, .slice p3 a.text.length c3, .slice q3 a.ops.length d3, .slice s3 a.seats.length e3] #[.int .i64 o.err, .int .u32 o.doc, .int .u64 o.rev, .bool o.whole, .slice p4 o.text.length c4, .slice q4 o.ops.length d4, .slice s4 o.seats.length e4] w1 := ⟨HC1.out.blk _ (.tail _ (.tail _ (.head _))), HC1.out.blk _ (.head _), HC1.out.blk _ (.tail _ (.tail _ (.tail _ (.head _)))), HC1.out.blk _ (.tail _ (.tail _ (.tail _ (.tail _ (.head _)))))⟩
  refine hK.out _ _ hS (fun _ => trivial) ?_
  clear hK
  try simp only [Act.put, List.setIfInBounds_toArray, List.set_cons_zero, List.set_cons_succ, List.getElem_toArray, List.getElem_cons_succ, List.getElem_cons_zero]
  refine take_S (v := ?v1) 1 rfl (by kernel_rfl) (by kernel_rfl) (by kernel_rfl) (by kernel_rfl) (fun _ _ _ h => hQ _ _ _ _ _ h) hS (fun _ => trivial) rfl (fun w' hq => ?h1) ?_
  case h1 => go_simp; try with_reducible rfl
  try simp only [Act.put, List.setIfInBounds_toArray, List.set_cons_zero, List.set_cons_succ, List.getElem_toArray, List.getElem_cons_succ, List.getElem_cons_zero]
  refine take_S (v := ?v2) 2 rfl (by kernel_rfl) (by kernel_rfl) (by kernel_rfl) (by kernel_rfl) (fun _ _ _ h => hQ _ _ _ _ _ h) hS (fun _ => trivial) rfl (fun w' hq => ?h2) ?_
  case h2 => go_simp; try with_reducible rfl
  try simp only [Act.put, List.setIfInBounds_toArray, List.set_cons_zero, List.set_cons_succ, List.getElem_toArray, List.getElem_cons_succ, List.getElem_cons_zero]
  refine take_S (v := ?v3) 3 rfl (by kernel_rfl) (by kernel_rfl) (by kernel_rfl) (by kernel_rfl) (fun _ _ _ h => hQ _ _ _ _ _ h) hS (fun _ => trivial) rfl (fun w' hq => ?h3) ?_
  case h3 => go_simp; try with_reducible rfl
  try simp only [Act.put, List.setIfInBounds_toArray, List.set_cons_zero, List.set_cons_succ, List.getElem_toArray, List.getElem_cons_succ, List.getElem_cons_zero]
  obtain ⟨u1, hb1⟩ := HC1.out.bts _ (.tail _ (.tail _ (.tail _ (.tail _ (.tail _ (.head _))))))
  obtain ⟨u2, hb2⟩ := HC1.out.bts _ (.tail _ (.tail _ (.tail _ (.tail _ (.head _)))))
  have Hbe := Lib.hid (And.intro hb1 hb2)
  clear hb1 hb2
  refine one_D 4 rfl (by kernel_rfl) (fun KQ hK => ?_)
  go_simp
  refine (bytes_EqualT (CmdOwn.rd Hbe.out.1) (CmdOwn.rd Hbe.out.2)).mono ?_
  rintro _ w2 ⟨rfl, hb⟩
  have HC2 := Lib.hid (HC1.out.next hb)
  clear hb hS Hbe HC1
  have hS : S12 b3 b20 b4 b5 #[.int .i64 kind, .int .u32 doc, .string ⟨nm.toArray⟩, .int .u64 rev, .int .i64 pos, .slice p vs.length c] #[.int .i64 kind, .int .u32 doc, .string ⟨nm.toArray⟩, .int .u64 (IntKind.u64.wrap (rev + 1)), .int .i64 pos, .slice p vs.length c] #[.int .i64 a.err, .int .u32 a.doc, .int .u64 a.rev, .bool a.whole, .slice p3 a.text.length c3, .slice q3 a.ops.length d3, .slice s3 a.seats.length e3] #[.int .i64 o.err, .int .u32 o.doc, .int .u64 o.rev, .bool o.whole, .slice p4 o.text.length c4, .slice q4 o.ops.length d4, .slice s4 o.seats.length e4] w2 := ⟨HC2.out.blk _ (.tail _ (.tail _ (.head _))), HC2.out.blk _ (.head _), HC2.out.blk _ (.tail _ (.tail _ (.tail _ (.head _)))), HC2.out.blk _ (.tail _ (.tail _ (.tail _ (.tail _ (.head _)))))⟩
  refine hK.out _ _ hS (fun _ => trivial) ?_
  clear hK
  try simp only [Act.put, List.setIfInBounds_toArray, List.set_cons_zero, List.set_cons_succ, List.getElem_toArray, List.getElem_cons_succ, List.getElem_cons_zero]
  refine take_S (v := ?v5) 5 rfl (by kernel_rfl) (by kernel_rfl) (by kernel_rfl) (by kernel_rfl) (fun _ _ _ h => hQ _ _ _ _ _ h) hS (fun _ => trivial) rfl (fun w' hq => ?h5) ?_
  case h5 => go_simp; try with_reducible rfl
  try simp only [Act.put, List.setIfInBounds_toArray, List.set_cons_zero, List.set_cons_succ, List.getElem_toArray, List.getElem_cons_succ, List.getElem_cons_zero]
  refine take_S (v := ?v6) 6 rfl (by kernel_rfl) (by kernel_rfl) (by kernel_rfl) (by kernel_rfl) (fun _ _ _ h => hQ _ _ _ _ _ h) hS (fun _ => trivial) rfl (fun w' hq => ?h6) ?_
  case h6 => go_simp; try with_reducible rfl
  try simp only [Act.put, List.setIfInBounds_toArray, List.set_cons_zero, List.set_cons_succ, List.getElem_toArray, List.getElem_cons_succ, List.getElem_cons_zero]
  refine take_S (v := ?v7) 7 rfl (by kernel_rfl) (by kernel_rfl) (by kernel_rfl) (by kernel_rfl) (fun _ _ _ h => hQ _ _ _ _ _ h) hS (fun _ => trivial) rfl (fun w' hq => ?h7) ?_
  case h7 => go_simp; try with_reducible rfl
  try simp only [Act.put, List.setIfInBounds_toArray, List.set_cons_zero, List.set_cons_succ, List.getElem_toArray, List.getElem_cons_succ, List.getElem_cons_zero]
  refine take_S (v := ?v8) 8 rfl (by kernel_rfl) (by kernel_rfl) (by kernel_rfl) (by kernel_rfl) (fun _ _ _ h => hQ _ _ _ _ _ h) hS (fun _ => trivial) rfl (fun w' hq => ?h8) ?_
  case h8 => go_simp; try with_reducible rfl
  try simp only [Act.put, List.setIfInBounds_toArray, List.set_cons_zero, List.set_cons_succ, List.getElem_toArray, List.getElem_cons_succ, List.getElem_cons_zero]
  refine take_S (v := ?v9) 9 rfl (by kernel_rfl) (by kernel_rfl) (by kernel_rfl) (by kernel_rfl) (fun _ _ _ h => hQ _ _ _ _ _ h) hS (fun _ => trivial) rfl (fun w' hq => ?h9) ?_
  case h9 => go_simp; try with_reducible rfl
  try simp only [Act.put, List.setIfInBounds_toArray, List.set_cons_zero, List.set_cons_succ, List.getElem_toArray, List.getElem_cons_succ, List.getElem_cons_zero]
  refine take_S (v := ?v10) 10 rfl (by kernel_rfl) (by kernel_rfl) (by kernel_rfl) (by kernel_rfl) (fun _ _ _ h => hQ _ _ _ _ _ h) hS (fun _ => trivial) rfl (fun w' hq => ?h10) ?_
  case h10 => go_simp; try with_reducible rfl
  try simp only [Act.put, List.setIfInBounds_toArray, List.set_cons_zero, List.set_cons_succ, List.getElem_toArray, List.getElem_cons_succ, List.getElem_cons_zero]
  refine take_S (v := ?v11) 11 rfl (by kernel_rfl) (by kernel_rfl) (by kernel_rfl) (by kernel_rfl) (fun _ _ _ h => hQ _ _ _ _ _ h) hS (fun _ => trivial) rfl (fun w' hq => ?h11) ?_
  case h11 => go_simp; try with_reducible rfl
  try simp only [Act.put, List.setIfInBounds_toArray, List.set_cons_zero, List.set_cons_succ, List.getElem_toArray, List.getElem_cons_succ, List.getElem_cons_zero]
  refine take_S (v := ?v12) 12 rfl (by kernel_rfl) (by kernel_rfl) (by kernel_rfl) (by kernel_rfl) (fun _ _ _ h => hQ _ _ _ _ _ h) hS (fun _ => trivial) rfl (fun w' hq => ?h12) ?_
  case h12 => go_simp; try with_reducible rfl
  try simp only [Act.put, List.setIfInBounds_toArray, List.set_cons_zero, List.set_cons_succ, List.getElem_toArray, List.getElem_cons_succ, List.getElem_cons_zero]
  refine take_S (v := ?v13) 13 rfl (by kernel_rfl) (by kernel_rfl) (by kernel_rfl) (by kernel_rfl) (fun _ _ _ h => hQ _ _ _ _ _ h) hS (fun _ => trivial) rfl (fun w' hq => ?h13) ?_
  case h13 => go_simp; try with_reducible rfl
  try simp only [Act.put, List.setIfInBounds_toArray, List.set_cons_zero, List.set_cons_succ, List.getElem_toArray, List.getElem_cons_succ, List.getElem_cons_zero]
  obtain ⟨u1, hb1⟩ := HC2.out.bts _ (.tail _ (.tail _ (.tail _ (.head _))))
  obtain ⟨u2, hb2⟩ := HC2.out.bts _ (.tail _ (.tail _ (.head _)))
  have Hbe := Lib.hid (And.intro hb1 hb2)
  clear hb1 hb2
  refine one_D 14 rfl (by kernel_rfl) (fun KQ hK => ?_)
  go_simp
  refine (bytes_EqualT (CmdOwn.rd Hbe.out.1) (CmdOwn.rd Hbe.out.2)).mono ?_
  rintro _ w3 ⟨rfl, hb⟩
  have HC3 := Lib.hid (HC2.out.next hb)
  clear hb hS Hbe HC2
  have hS : S12 b3 b20 b4 b5 #[.int .i64 kind, .int .u32 doc, .string ⟨nm.toArray⟩, .int .u64 rev, .int .i64 pos, .slice p vs.length c] #[.int .i64 kind, .int .u32 doc, .string ⟨nm.toArray⟩, .int .u64 (IntKind.u64.wrap (rev + 1)), .int .i64 pos, .slice p vs.length c] #[.int .i64 a.err, .int .u32 a.doc, .int .u64 a.rev, .bool a.whole, .slice p3 a.text.length c3, .slice q3 a.ops.length d3, .slice s3 a.seats.length e3] #[.int .i64 o.err, .int .u32 o.doc, .int .u64 o.rev, .bool o.whole, .slice p4 o.text.length c4, .slice q4 o.ops.length d4, .slice s4 o.seats.length e4] w3 := ⟨HC3.out.blk _ (.tail _ (.tail _ (.head _))), HC3.out.blk _ (.head _), HC3.out.blk _ (.tail _ (.tail _ (.tail _ (.head _)))), HC3.out.blk _ (.tail _ (.tail _ (.tail _ (.tail _ (.head _)))))⟩
  refine hK.out _ _ hS (fun _ => trivial) ?_
  clear hK
  try simp only [Act.put, List.setIfInBounds_toArray, List.set_cons_zero, List.set_cons_succ, List.getElem_toArray, List.getElem_cons_succ, List.getElem_cons_zero]
  refine take_S (v := ?v15) 15 rfl (by kernel_rfl) (by kernel_rfl) (by kernel_rfl) (by kernel_rfl) (fun _ _ _ h => hQ _ _ _ _ _ h) hS (fun _ => trivial) rfl (fun w' hq => ?h15) ?_
  case h15 => go_simp; try with_reducible rfl
  try simp only [Act.put, List.setIfInBounds_toArray, List.set_cons_zero, List.set_cons_succ, List.getElem_toArray, List.getElem_cons_succ, List.getElem_cons_zero]
  refine take_S (v := ?v16) 16 rfl (by kernel_rfl) (by kernel_rfl) (by kernel_rfl) (by kernel_rfl) (fun _ _ _ h => hQ _ _ _ _ _ h) hS (fun _ => trivial) rfl (fun w' hq => ?h16) ?_
  case h16 => go_simp; try with_reducible rfl
  try simp only [Act.put, List.setIfInBounds_toArray, List.set_cons_zero, List.set_cons_succ, List.getElem_toArray, List.getElem_cons_succ, List.getElem_cons_zero]
  refine take_S (v := ?v17) 17 rfl (by kernel_rfl) (by kernel_rfl) (by kernel_rfl) (by kernel_rfl) (fun _ _ _ h => hQ _ _ _ _ _ h) hS (fun _ => trivial) rfl (fun w' hq => ?h17) ?_
  case h17 => go_simp; try with_reducible rfl
  try simp only [Act.put, List.setIfInBounds_toArray, List.set_cons_zero, List.set_cons_succ, List.getElem_toArray, List.getElem_cons_succ, List.getElem_cons_zero]
  refine take_S (v := ?v18) 18 rfl (by kernel_rfl) (by kernel_rfl) (by kernel_rfl) (by kernel_rfl) (fun _ _ _ h => hQ _ _ _ _ _ h) hS (fun _ => trivial) rfl (fun w' hq => ?h18) ?_
  case h18 => go_simp; try with_reducible rfl
  try simp only [Act.put, List.setIfInBounds_toArray, List.set_cons_zero, List.set_cons_succ, List.getElem_toArray, List.getElem_cons_succ, List.getElem_cons_zero]
  refine take_S (v := ?v19) 19 rfl (by kernel_rfl) (by kernel_rfl) (by kernel_rfl) (by kernel_rfl) (fun _ _ _ h => hQ _ _ _ _ _ h) hS (fun _ => trivial) rfl (fun w' hq => ?h19) ?_
  case h19 => go_simp; try with_reducible rfl
  try simp only [Act.put, List.setIfInBounds_toArray, List.set_cons_zero, List.set_cons_succ, List.getElem_toArray, List.getElem_cons_succ, List.getElem_cons_zero]
  refine take_S (v := ?v20) 20 rfl (by kernel_rfl) (by kernel_rfl) (by kernel_rfl) (by kernel_rfl) (fun _ _ _ h => hQ _ _ _ _ _ h) hS (fun _ => trivial) rfl (fun w' hq => ?h20) ?_
  case h20 => go_simp; try with_reducible rfl
  try simp only [Act.put, List.setIfInBounds_toArray, List.set_cons_zero, List.set_cons_succ, List.getElem_toArray, List.getElem_cons_succ, List.getElem_cons_zero]
  refine take_S (v := ?v21) 21 rfl (by kernel_rfl) (by kernel_rfl) (by kernel_rfl) (by kernel_rfl) (fun _ _ _ h => hQ _ _ _ _ _ h) hS (fun _ => trivial) rfl (fun w' hq => ?h21) ?_
  case h21 => go_simp; try with_reducible rfl
  try simp only [Act.put, List.setIfInBounds_toArray, List.set_cons_zero, List.set_cons_succ, List.getElem_toArray, List.getElem_cons_succ, List.getElem_cons_zero]
  refine take_S (v := ?v22) 22 rfl (by kernel_rfl) (by kernel_rfl) (by kernel_rfl) (by kernel_rfl) (fun _ _ _ h => hQ _ _ _ _ _ h) hS (fun _ => trivial) rfl (fun w' hq => ?h22) ?_
  case h22 => go_simp; try with_reducible rfl
  try simp only [Act.put, List.setIfInBounds_toArray, List.set_cons_zero, List.set_cons_succ, List.getElem_toArray, List.getElem_cons_succ, List.getElem_cons_zero]
  refine take_S (v := ?v23) 23 rfl (by kernel_rfl) (by kernel_rfl) (by kernel_rfl) (by kernel_rfl) (fun _ _ _ h => hQ _ _ _ _ _ h) hS (fun _ => trivial) rfl (fun w' hq => ?h23) ?_
  case h23 => go_simp; try with_reducible rfl
  try simp only [Act.put, List.setIfInBounds_toArray, List.set_cons_zero, List.set_cons_succ, List.getElem_toArray, List.getElem_cons_succ, List.getElem_cons_zero]
  obtain ⟨u1, hb1⟩ := HC3.out.bts _ (.tail _ (.head _))
  obtain ⟨u2, hb2⟩ := HC3.out.bts _ (.head _)
  have Hbe := Lib.hid (And.intro hb1 hb2)
  clear hb1 hb2
  refine one_D 24 rfl (by kernel_rfl) (fun KQ hK => ?_)
  go_simp
  refine (bytes_EqualT (CmdOwn.rd Hbe.out.1) (CmdOwn.rd Hbe.out.2)).mono ?_
  rintro _ w4 ⟨rfl, hb⟩
  have HC4 := Lib.hid (HC3.out.next hb)
  clear hb hS Hbe HC3
  have hS : S12 b3 b20 b4 b5 #[.int .i64 kind, .int .u32 doc, .string ⟨nm.toArray⟩, .int .u64 rev, .int .i64 pos, .slice p vs.length c] #[.int .i64 kind, .int .u32 doc, .string ⟨nm.toArray⟩, .int .u64 (IntKind.u64.wrap (rev + 1)), .int .i64 pos, .slice p vs.length c] #[.int .i64 a.err, .int .u32 a.doc, .int .u64 a.rev, .bool a.whole, .slice p3 a.text.length c3, .slice q3 a.ops.length d3, .slice s3 a.seats.length e3] #[.int .i64 o.err, .int .u32 o.doc, .int .u64 o.rev, .bool o.whole, .slice p4 o.text.length c4, .slice q4 o.ops.length d4, .slice s4 o.seats.length e4] w4 := ⟨HC4.out.blk _ (.tail _ (.tail _ (.head _))), HC4.out.blk _ (.head _), HC4.out.blk _ (.tail _ (.tail _ (.tail _ (.head _)))), HC4.out.blk _ (.tail _ (.tail _ (.tail _ (.tail _ (.head _)))))⟩
  refine hK.out _ _ hS (fun _ => trivial) ?_
  clear hK
  try simp only [Act.put, List.setIfInBounds_toArray, List.set_cons_zero, List.set_cons_succ, List.getElem_toArray, List.getElem_cons_succ, List.getElem_cons_zero]
  refine take_S (v := ?v25) 25 rfl (by kernel_rfl) (by kernel_rfl) (by kernel_rfl) (by kernel_rfl) (fun _ _ _ h => hQ _ _ _ _ _ h) hS (fun _ => trivial) rfl (fun w' hq => ?h25) ?_
  case h25 => go_simp; try with_reducible rfl
  try simp only [Act.put, List.setIfInBounds_toArray, List.set_cons_zero, List.set_cons_succ, List.getElem_toArray, List.getElem_cons_succ, List.getElem_cons_zero]
  refine take_S (v := ?v26) 26 rfl (by kernel_rfl) (by kernel_rfl) (by kernel_rfl) (by kernel_rfl) (fun _ _ _ h => hQ _ _ _ _ _ h) hS (fun _ => trivial) rfl (fun w' hq => ?h26) ?_
  case h26 => go_simp; try with_reducible rfl
  try simp only [Act.put, List.setIfInBounds_toArray, List.set_cons_zero, List.set_cons_succ, List.getElem_toArray, List.getElem_cons_succ, List.getElem_cons_zero]
  refine take_S (v := ?v27) 27 rfl (by kernel_rfl) (by kernel_rfl) (by kernel_rfl) (by kernel_rfl) (fun _ _ _ h => hQ _ _ _ _ _ h) hS (fun _ => trivial) rfl (fun w' hq => ?h27) ?_
  case h27 => go_simp; try with_reducible rfl
  try simp only [Act.put, List.setIfInBounds_toArray, List.set_cons_zero, List.set_cons_succ, List.getElem_toArray, List.getElem_cons_succ, List.getElem_cons_zero]
  refine take_S (v := ?v28) 28 rfl (by kernel_rfl) (by kernel_rfl) (by kernel_rfl) (by kernel_rfl) (fun _ _ _ h => hQ _ _ _ _ _ h) hS (fun _ => trivial) rfl (fun w' hq => ?h28) ?_
  case h28 => go_simp; try with_reducible rfl
  try simp only [Act.put, List.setIfInBounds_toArray, List.set_cons_zero, List.set_cons_succ, List.getElem_toArray, List.getElem_cons_succ, List.getElem_cons_zero]
  refine take_S (v := ?v29) 29 rfl (by kernel_rfl) (by kernel_rfl) (by kernel_rfl) (by kernel_rfl) (fun _ _ _ h => hQ _ _ _ _ _ h) hS (fun _ => trivial) rfl (fun w' hq => ?h29) ?_
  case h29 => go_simp; try with_reducible rfl
  try simp only [Act.put, List.setIfInBounds_toArray, List.set_cons_zero, List.set_cons_succ, List.getElem_toArray, List.getElem_cons_succ, List.getElem_cons_zero]
  refine take_S (v := ?v30) 30 rfl (by kernel_rfl) (by kernel_rfl) (by kernel_rfl) (by kernel_rfl) (fun _ _ _ h => hQ _ _ _ _ _ h) hS (fun _ => trivial) rfl (fun w' hq => ?h30) ?_
  case h30 => go_simp; try with_reducible rfl
  try simp only [Act.put, List.setIfInBounds_toArray, List.set_cons_zero, List.set_cons_succ, List.getElem_toArray, List.getElem_cons_succ, List.getElem_cons_zero]
  refine take_S (v := ?v31) 31 rfl (by kernel_rfl) (by kernel_rfl) (by kernel_rfl) (by kernel_rfl) (fun _ _ _ h => hQ _ _ _ _ _ h) hS (fun _ => trivial) rfl (fun w' hq => ?h31) ?_
  case h31 => go_simp; try with_reducible rfl
  try simp only [Act.put, List.setIfInBounds_toArray, List.set_cons_zero, List.set_cons_succ, List.getElem_toArray, List.getElem_cons_succ, List.getElem_cons_zero]
  refine take_S (v := ?v32) 32 rfl (by kernel_rfl) (by kernel_rfl) (by kernel_rfl) (by kernel_rfl) (fun _ _ _ h => hQ _ _ _ _ _ h) hS (fun _ => trivial) rfl (fun w' hq => ?h32) ?_
  case h32 =>
    have hK := hq.1
    have m0 := hK.cell 0
    have m1 := hK.cell 1
    have m2 := hK.cell 2
    have m3 := hK.cell 3
    have m4 := hK.cell 4
    have m5 := hK.cell 5
    have hz := hK.lt
    simp only [List.getElem?_toArray, List.getElem?_cons_succ, List.getElem?_cons_zero] at m0 m1 m2 m3 m4 m5
    clear hK
    go_simp; try with_reducible rfl
  try simp only [Act.put, List.setIfInBounds_toArray, List.set_cons_zero, List.set_cons_succ, List.getElem_toArray, List.getElem_cons_succ, List.getElem_cons_zero]
  refine take_S (v := ?v33) 33 rfl (by kernel_rfl) (by kernel_rfl) (by kernel_rfl) (by kernel_rfl) (fun _ _ _ h => hQ _ _ _ _ _ h) hS (fun _ => trivial) rfl (fun w' hq => ?h33) ?_
  case h33 =>
    have hK := hq.1
    have m0 := hK.cell 0
    have m1 := hK.cell 1
    have m2 := hK.cell 2
    have m3 := hK.cell 3
    have m4 := hK.cell 4
    have m5 := hK.cell 5
    have hz := hK.lt
    simp only [List.getElem?_toArray, List.getElem?_cons_succ, List.getElem?_cons_zero] at m0 m1 m2 m3 m4 m5
    clear hK
    go_simp; try with_reducible rfl
  try simp only [Act.put, List.setIfInBounds_toArray, List.set_cons_zero, List.set_cons_succ, List.getElem_toArray, List.getElem_cons_succ, List.getElem_cons_zero]
  refine one_D 34 rfl (by kernel_rfl) (fun KQ hK => ?_)
  go_simp
  refine (cmd_SameCmd HC4.out.uts HC4.out.uts hl).mono ?_
  rintro _ w5 ⟨rfl, hb⟩
  have HC5 := Lib.hid (HC4.out.next hb)
  clear hb hS HC4
  have hS : S12 b3 b20 b4 b5 #[.int .i64 kind, .int .u32 doc, .string ⟨nm.toArray⟩, .int .u64 rev, .int .i64 pos, .slice p vs.length c] #[.int .i64 kind, .int .u32 doc, .string ⟨nm.toArray⟩, .int .u64 (IntKind.u64.wrap (rev + 1)), .int .i64 pos, .slice p vs.length c] #[.int .i64 a.err, .int .u32 a.doc, .int .u64 a.rev, .bool a.whole, .slice p3 a.text.length c3, .slice q3 a.ops.length d3, .slice s3 a.seats.length e3] #[.int .i64 o.err, .int .u32 o.doc, .int .u64 o.rev, .bool o.whole, .slice p4 o.text.length c4, .slice q4 o.ops.length d4, .slice s4 o.seats.length e4] w5 := ⟨HC5.out.blk _ (.tail _ (.tail _ (.head _))), HC5.out.blk _ (.head _), HC5.out.blk _ (.tail _ (.tail _ (.tail _ (.head _)))), HC5.out.blk _ (.tail _ (.tail _ (.tail _ (.tail _ (.head _)))))⟩
  refine hK.out _ _ hS (fun _ => trivial) ?_
  clear hK
  try simp only [Act.put, List.setIfInBounds_toArray, List.set_cons_zero, List.set_cons_succ, List.getElem_toArray, List.getElem_cons_succ, List.getElem_cons_zero]
  refine take_S (v := ?v35) 35 rfl (by kernel_rfl) (by kernel_rfl) (by kernel_rfl) (by kernel_rfl) (fun _ _ _ h => hQ _ _ _ _ _ h) hS (fun _ => trivial) rfl (fun w' hq => ?h35) ?_
  case h35 => go_simp; try with_reducible rfl
  try simp only [Act.put, List.setIfInBounds_toArray, List.set_cons_zero, List.set_cons_succ, List.getElem_toArray, List.getElem_cons_succ, List.getElem_cons_zero]
  refine take_S (v := ?v36) 36 rfl (by kernel_rfl) (by kernel_rfl) (by kernel_rfl) (by kernel_rfl) (fun _ _ _ h => hQ _ _ _ _ _ h) hS (fun _ => trivial) rfl (fun w' hq => ?h36) ?_
  case h36 => go_simp; try with_reducible rfl
  try simp only [Act.put, List.setIfInBounds_toArray, List.set_cons_zero, List.set_cons_succ, List.getElem_toArray, List.getElem_cons_succ, List.getElem_cons_zero]
  refine take_S (v := ?v37) 37 rfl (by kernel_rfl) (by kernel_rfl) (by kernel_rfl) (by kernel_rfl) (fun _ _ _ h => hQ _ _ _ _ _ h) hS (fun _ => trivial) rfl (fun w' hq => ?h37) ?_
  case h37 =>
    have hK := hq.1
    have m0 := hK.cell 0
    have m1 := hK.cell 1
    have m2 := hK.cell 2
    have m3 := hK.cell 3
    have m4 := hK.cell 4
    have m5 := hK.cell 5
    have hz := hK.lt
    simp only [List.getElem?_toArray, List.getElem?_cons_succ, List.getElem?_cons_zero] at m0 m1 m2 m3 m4 m5
    clear hK
    go_simp; try with_reducible rfl
  try simp only [Act.put, List.setIfInBounds_toArray, List.set_cons_zero, List.set_cons_succ, List.getElem_toArray, List.getElem_cons_succ, List.getElem_cons_zero]
  refine take_S (v := ?v38) 38 rfl (by kernel_rfl) (by kernel_rfl) (by kernel_rfl) (by kernel_rfl) (fun _ _ _ h => hQ _ _ _ _ _ h) hS (fun _ => trivial) rfl (fun w' hq => ?h38) ?_
  case h38 =>
    have hK := hq.2.1
    have m0 := hK.cell 0
    have m1 := hK.cell 1
    have m2 := hK.cell 2
    have m3 := hK.cell 3
    have m4 := hK.cell 4
    have m5 := hK.cell 5
    have hz := hK.lt
    simp only [List.getElem?_toArray, List.getElem?_cons_succ, List.getElem?_cons_zero] at m0 m1 m2 m3 m4 m5
    clear hK
    go_simp; try with_reducible rfl
  try simp only [Act.put, List.setIfInBounds_toArray, List.set_cons_zero, List.set_cons_succ, List.getElem_toArray, List.getElem_cons_succ, List.getElem_cons_zero]
  refine one_D 39 rfl (by kernel_rfl) (fun KQ hK => ?_)
  go_simp
  refine (cmd_SameNot (fun e => rev_next rev e.symm)).mono ?_
  rintro _ w6 ⟨rfl, hb⟩
  have HC6 := Lib.hid (HC5.out.next hb)
  clear hb hS HC5
  have hS : S12 b3 b20 b4 b5 #[.int .i64 kind, .int .u32 doc, .string ⟨nm.toArray⟩, .int .u64 rev, .int .i64 pos, .slice p vs.length c] #[.int .i64 kind, .int .u32 doc, .string ⟨nm.toArray⟩, .int .u64 (IntKind.u64.wrap (rev + 1)), .int .i64 pos, .slice p vs.length c] #[.int .i64 a.err, .int .u32 a.doc, .int .u64 a.rev, .bool a.whole, .slice p3 a.text.length c3, .slice q3 a.ops.length d3, .slice s3 a.seats.length e3] #[.int .i64 o.err, .int .u32 o.doc, .int .u64 o.rev, .bool o.whole, .slice p4 o.text.length c4, .slice q4 o.ops.length d4, .slice s4 o.seats.length e4] w6 := ⟨HC6.out.blk _ (.tail _ (.tail _ (.head _))), HC6.out.blk _ (.head _), HC6.out.blk _ (.tail _ (.tail _ (.tail _ (.head _)))), HC6.out.blk _ (.tail _ (.tail _ (.tail _ (.tail _ (.head _)))))⟩
  refine hK.out _ _ hS (fun _ => trivial) ?_
  clear hK
  try simp only [Act.put, List.setIfInBounds_toArray, List.set_cons_zero, List.set_cons_succ, List.getElem_toArray, List.getElem_cons_succ, List.getElem_cons_zero]
  refine take_S (v := ?v40) 40 rfl (by kernel_rfl) (by kernel_rfl) (by kernel_rfl) (by kernel_rfl) (fun _ _ _ h => hQ _ _ _ _ _ h) hS (fun _ => trivial) rfl (fun w' hq => ?h40) ?_
  case h40 => go_simp; try with_reducible rfl
  try simp only [Act.put, List.setIfInBounds_toArray, List.set_cons_zero, List.set_cons_succ, List.getElem_toArray, List.getElem_cons_succ, List.getElem_cons_zero]
  refine take_S (v := ?v41) 41 rfl (by kernel_rfl) (by kernel_rfl) (by kernel_rfl) (by kernel_rfl) (fun _ _ _ h => hQ _ _ _ _ _ h) hS (fun _ => trivial) rfl (fun w' hq => ?h41) ?_
  case h41 => go_simp; try with_reducible rfl
  try simp only [Act.put, List.setIfInBounds_toArray, List.set_cons_zero, List.set_cons_succ, List.getElem_toArray, List.getElem_cons_succ, List.getElem_cons_zero]
  refine take_S (v := ?v42) 42 rfl (by kernel_rfl) (by kernel_rfl) (by kernel_rfl) (by kernel_rfl) (fun _ _ _ h => hQ _ _ _ _ _ h) hS (fun _ => trivial) rfl (fun w' hq => ?h42) ?_
  case h42 => go_simp; try with_reducible rfl
  try simp only [Act.put, List.setIfInBounds_toArray, List.set_cons_zero, List.set_cons_succ, List.getElem_toArray, List.getElem_cons_succ, List.getElem_cons_zero]
  refine take_S (v := ?v43) 43 rfl (by kernel_rfl) (by kernel_rfl) (by kernel_rfl) (by kernel_rfl) (fun _ _ _ h => hQ _ _ _ _ _ h) hS (fun _ => trivial) rfl (fun w' hq => ?h43) ?_
  case h43 =>
    have hK := hq.2.2.1
    have m0 := hK.cell 0
    have m1 := hK.cell 1
    have m2 := hK.cell 2
    have m3 := hK.cell 3
    have m4 := hK.cell 4
    have m5 := hK.cell 5
    have m6 := hK.cell 6
    have hz := hK.lt
    simp only [List.getElem?_toArray, List.getElem?_cons_succ, List.getElem?_cons_zero] at m0 m1 m2 m3 m4 m5 m6
    clear hK
    go_simp; try with_reducible rfl
  try simp only [Act.put, List.setIfInBounds_toArray, List.set_cons_zero, List.set_cons_succ, List.getElem_toArray, List.getElem_cons_succ, List.getElem_cons_zero]
  refine take_S (v := ?v44) 44 rfl (by kernel_rfl) (by kernel_rfl) (by kernel_rfl) (by kernel_rfl) (fun _ _ _ h => hQ _ _ _ _ _ h) hS (fun _ => trivial) rfl (fun w' hq => ?h44) ?_
  case h44 =>
    have hK := hq.2.2.2
    have m0 := hK.cell 0
    have m1 := hK.cell 1
    have m2 := hK.cell 2
    have m3 := hK.cell 3
    have m4 := hK.cell 4
    have m5 := hK.cell 5
    have m6 := hK.cell 6
    have hz := hK.lt
    simp only [List.getElem?_toArray, List.getElem?_cons_succ, List.getElem?_cons_zero] at m0 m1 m2 m3 m4 m5 m6
    clear hK
    go_simp; try with_reducible rfl
  try simp only [Act.put, List.setIfInBounds_toArray, List.set_cons_zero, List.set_cons_succ, List.getElem_toArray, List.getElem_cons_succ, List.getElem_cons_zero]
  refine take_S (v := ?v46) 46 rfl (by kernel_rfl) (by kernel_rfl) (by kernel_rfl) (by kernel_rfl) (fun _ _ _ h => hQ _ _ _ _ _ h) hS (fun _ => trivial) rfl (fun w' hq => ?h46) ?_
  case h46 =>
    have hK := hq.2.2.1
    have m0 := hK.cell 0
    have m1 := hK.cell 1
    have m2 := hK.cell 2
    have m3 := hK.cell 3
    have m4 := hK.cell 4
    have m5 := hK.cell 5
    have m6 := hK.cell 6
    have hz := hK.lt
    simp only [List.getElem?_toArray, List.getElem?_cons_succ, List.getElem?_cons_zero] at m0 m1 m2 m3 m4 m5 m6
    clear hK
    go_simp; try with_reducible rfl
  try simp only [Act.put, List.setIfInBounds_toArray, List.set_cons_zero, List.set_cons_succ, List.getElem_toArray, List.getElem_cons_succ, List.getElem_cons_zero]
  refine take_S (v := ?v47) 47 rfl (by kernel_rfl) (by kernel_rfl) (by kernel_rfl) (by kernel_rfl) (fun _ _ _ h => hQ _ _ _ _ _ h) hS (fun _ => trivial) rfl (fun w' hq => ?h47) ?_
  case h47 =>
    have hK := hq.2.2.2
    have m0 := hK.cell 0
    have m1 := hK.cell 1
    have m2 := hK.cell 2
    have m3 := hK.cell 3
    have m4 := hK.cell 4
    have m5 := hK.cell 5
    have m6 := hK.cell 6
    have hz := hK.lt
    simp only [List.getElem?_toArray, List.getElem?_cons_succ, List.getElem?_cons_zero] at m0 m1 m2 m3 m4 m5 m6
    clear hK
    go_simp; try with_reducible rfl
  try simp only [Act.put, List.setIfInBounds_toArray, List.set_cons_zero, List.set_cons_succ, List.getElem_toArray, List.getElem_cons_succ, List.getElem_cons_zero]
  obtain ⟨zz, hzz⟩ : ∃ x, decide (a = o) = x := ⟨_, rfl⟩
  have Hzz := Lib.hid hzz
  clear hzz
  have HPa := Lib.hid (HC6.out.ans _ (.head _)).parts
  have HPo := Lib.hid (HC6.out.ans _ (.tail _ (.head _))).parts
  refine one_D 45 rfl (by kernel_rfl) (fun KQ hK => ?_)
  go_simp
  refine (cmd_SameAnswer HPa.out.1 HPa.out.2.1 HPa.out.2.2 HPo.out.1 HPo.out.2.1 HPo.out.2.2 HA.out HO.out).mono ?_
  rw [Hzz.out]
  rintro _ w7 ⟨rfl, hb⟩
  have HC7 := Lib.hid (HC6.out.next hb)
  clear hb hS HPa HPo HC6
  have hS : S12 b3 b20 b4 b5 #[.int .i64 kind, .int .u32 doc, .string ⟨nm.toArray⟩, .int .u64 rev, .int .i64 pos, .slice p vs.length c] #[.int .i64 kind, .int .u32 doc, .string ⟨nm.toArray⟩, .int .u64 (IntKind.u64.wrap (rev + 1)), .int .i64 pos, .slice p vs.length c] #[.int .i64 a.err, .int .u32 a.doc, .int .u64 a.rev, .bool a.whole, .slice p3 a.text.length c3, .slice q3 a.ops.length d3, .slice s3 a.seats.length e3] #[.int .i64 o.err, .int .u32 o.doc, .int .u64 o.rev, .bool o.whole, .slice p4 o.text.length c4, .slice q4 o.ops.length d4, .slice s4 o.seats.length e4] w7 := ⟨HC7.out.blk _ (.tail _ (.tail _ (.head _))), HC7.out.blk _ (.head _), HC7.out.blk _ (.tail _ (.tail _ (.tail _ (.head _)))), HC7.out.blk _ (.tail _ (.tail _ (.tail _ (.tail _ (.head _)))))⟩
  refine hK.out _ _ hS (fun _ => trivial) ?_
  clear hK
  try simp only [Act.put, List.setIfInBounds_toArray, List.set_cons_zero, List.set_cons_succ, List.getElem_toArray, List.getElem_cons_succ, List.getElem_cons_zero]
  have HPa := Lib.hid (HC7.out.ans _ (.head _)).parts
  have HPo := Lib.hid (HC7.out.ans _ (.tail _ (.head _))).parts
  refine one_D 48 rfl (by kernel_rfl) (fun KQ hK => ?_)
  go_simp
  refine (ref_SameAnswer HPa.out.1 HPa.out.2.1 HPa.out.2.2 HPo.out.1 HPo.out.2.1 HPo.out.2.2 HA.out HO.out).mono ?_
  rw [Hzz.out]
  rintro _ w8 ⟨rfl, hb⟩
  have HC8 := Lib.hid (HC7.out.next hb)
  clear hb hS HPa HPo HC7
  have hS : S12 b3 b20 b4 b5 #[.int .i64 kind, .int .u32 doc, .string ⟨nm.toArray⟩, .int .u64 rev, .int .i64 pos, .slice p vs.length c] #[.int .i64 kind, .int .u32 doc, .string ⟨nm.toArray⟩, .int .u64 (IntKind.u64.wrap (rev + 1)), .int .i64 pos, .slice p vs.length c] #[.int .i64 a.err, .int .u32 a.doc, .int .u64 a.rev, .bool a.whole, .slice p3 a.text.length c3, .slice q3 a.ops.length d3, .slice s3 a.seats.length e3] #[.int .i64 o.err, .int .u32 o.doc, .int .u64 o.rev, .bool o.whole, .slice p4 o.text.length c4, .slice q4 o.ops.length d4, .slice s4 o.seats.length e4] w8 := ⟨HC8.out.blk _ (.tail _ (.tail _ (.head _))), HC8.out.blk _ (.head _), HC8.out.blk _ (.tail _ (.tail _ (.tail _ (.head _)))), HC8.out.blk _ (.tail _ (.tail _ (.tail _ (.tail _ (.head _)))))⟩
  refine hK.out _ _ hS (fun _ => trivial) ?_
  clear hK
  try simp only [Act.put, List.setIfInBounds_toArray, List.set_cons_zero, List.set_cons_succ, List.getElem_toArray, List.getElem_cons_succ, List.getElem_cons_zero]
  refine take_S (v := ?v49) 49 rfl (by kernel_rfl) (by kernel_rfl) (by kernel_rfl) (by kernel_rfl) (fun _ _ _ h => hQ _ _ _ _ _ h) hS (fun _ => trivial) rfl (fun w' hq => ?h49) ?_
  case h49 => go_simp; try with_reducible rfl
  try simp only [Act.put, List.setIfInBounds_toArray, List.set_cons_zero, List.set_cons_succ, List.getElem_toArray, List.getElem_cons_succ, List.getElem_cons_zero]
  refine take_S (v := ?v50) 50 rfl (by kernel_rfl) (by kernel_rfl) (by kernel_rfl) (by kernel_rfl) (fun _ _ _ h => hQ _ _ _ _ _ h) hS (fun _ => trivial) rfl (fun w' hq => ?h50) ?_
  case h50 => go_simp; try with_reducible rfl
  try simp only [Act.put, List.setIfInBounds_toArray, List.set_cons_zero, List.set_cons_succ, List.getElem_toArray, List.getElem_cons_succ, List.getElem_cons_zero]
  refine take_S (v := ?v51) 51 rfl (by kernel_rfl) (by kernel_rfl) (by kernel_rfl) (by kernel_rfl) (fun _ _ _ h => hQ _ _ _ _ _ h) hS (fun _ => trivial) rfl (fun w' hq => ?h51) ?_
  case h51 => go_simp; try with_reducible rfl
  try simp only [Act.put, List.setIfInBounds_toArray, List.set_cons_zero, List.set_cons_succ, List.getElem_toArray, List.getElem_cons_succ, List.getElem_cons_zero]
  refine done_D (by kernel_rfl) ?_ _
  exact Hm.out _ _ _ _ _ _ _ _ _ _ _ _ _ _ _ _ _ _ _ _ _ _ _ _ _ _ _ _ _ _ _ _ _ _ _ _ _ _ _ _ _ _ _ _ _ _ _ _ _ _ _ _ HC8.out.below
end Go.Proofs.YtciojggkcmdjiaaDoor
