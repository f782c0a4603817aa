/-
  PieceText's switch: what each of its cases leaves. (Printed by wip/gen_ptext.py.)
-/
import Derived.Test.YtelaiafpfaohfaaPtextL
namespace Go.Proofs.Ytelaiafpfaohfaa
open Go.RowKit
set_option linter.unusedSimpArgs false
set_option linter.unusedVariables false

/-- The block of this number. -/
def blockOf (n : Nat) : Code → Option Code
  | .block k c => if k = n then some (.block k c) else blockOf n c
  | .seq a b => match blockOf n a with
    | some c => some c
    | none => blockOf n b
  | .loop c => blockOf n c
  | .scope c => blockOf n c
  | .cond _ a b => match blockOf n a with
    | some c => some c
    | none => blockOf n b
  | _ => none
noncomputable def swText : Code := ((Try.f8.body.bind (blockOf 2)).getD .skip)
/-- What the switch is met with. -/
structure SwH (w w3 : World) (b A n bef k da : Nat) (p qa : Option Addr) (c : Nat) (t : Tb) (what pos dn : Int) (x : List Int) : Prop where
  HTx : Tx w.heap.size w3 b (.slice p n c) t (300 + 100 * k)
  HXB : Below w.heap.size w w3
  HXq : CharRd w3 (fun j => j < w.heap.size) (.slice qa x.length da) x
  HNx : NilOk (.slice qa x.length da)
  HAB : Blk w3 A 31 #[.int .i64 what, .int .i64 pos, .int .i64 dn, .slice qa x.length da]
  HAne : A ≠ b ∧ (Value.slice p n c).ownBlock ≠ some A
  Hnl : n = t.long
  Hbef : bef = t.ps.length
  Hint : i64b pos ∧ i64b dn
  hk6 : k < 60
  hx100 : x.length ≤ 100
/-- What the switch leaves. -/
def SwRel (w : World) (b k : Nat) (rv : Value) (wx : World) : Prop := ∃ (n : Nat) (t : Tb) (p : Option Addr) (c : Nat), rv = .slice p n c ∧ Hid (n = t.long ∧ Tx w.heap.size wx b (.slice p n c) t (300 + 100 * (k + 1)) ∧ Below w.heap.size w wx)

set_option maxHeartbeats 12800000 in
set_option maxRecDepth 1000000 in
theorem sw0t {w w3 : World} {b A n bef k da : Nat} {p qa : Option Addr} {c : Nat} {t : Tb} {what pos dn : Int} {x : List Int} {K : Act → World → Prop} {Q : Exit → Act → World → Prop} {x0 x1 x2 x3 x4 x7 x10 x11 x12 x13 x14 x15 x16 x17 x18 x19 x20 x21 x22 x23 x24 x25 x26 x27 x28 x29 x30 x31 x32 x33 x34 x35 x36 x37 x38 x39 x40 x41 x42 x43 x44 x45 x47 x48 x49 x50 x51 x52 x53 x54 x55 x56 x57 x58 x59 x60 x61 x62 x63 x64 x65 x66 x67 x68 x69 x70 x71 x72 x73 x74 x75 x76 x77 x78 x79 x80 x81 x82 x83 x84 x85 x86 x87 x88 x89 x90 x91 x92 x93 x94 x95 x96 x97 x98 x99 x100 x101 x102 x103 x104 x105 x106 x107 x108 x109 x110 x111 x112 x113 x114 x115 x116 x117 x118 x119 x120 x121 x122 x123 x124 x125 x126 x127 x128 x129 x130 x131 x132 x133 x134 x135 x136 x137 x138 x139 x140 x141 x142 x143 x144 x145 x146 x147 x148 x149 x150 x151 x152 x153 x154 x155 x156 x157 x158 x159 x160 x161 x162 x163 x164 x165 x166 x167 x168 x169 x170 x171 x172 x173 x174 x175 x176 x177 x178 x179 x180 x181 x182 x183 x184 x185 x186 x187 x188 x189 x190 x191 x192 x193 x194 x195 x196 x197 x198 x199 x200 x201 x202 x203 x204 x205 x206 x207 x208 x209 x210 x211 x212 x213 x214 : Value}
    (H : SwH w w3 b A n bef k da p qa c t what pos dn x) (hw : what = 0) (hin : 0 ≤ pos ∧ pos ≤ (n : Int))
    (hm : ∀ (u4 u6 u10 u11 u47 u48 u49 u50 u51 u52 u53 u54 u55 u56 u57 u58 u59 u60 u61 u62 u63 u64 u65 u66 u67 u68 u69 u70 u71 u72 u73 u74 u75 u76 u77 u78 u79 u80 u81 u82 u83 u84 u85 u86 u87 u88 u89 u90 u91 u92 u93 u94 u95 u96 u97 u98 u99 u100 u101 u102 u103 u104 u105 u106 u107 u108 u109 u110 u111 u112 u113 u114 u115 u116 u117 u118 u119 u120 u121 u122 u123 u124 u125 u126 u127 u128 u129 u130 u131 u132 u133 u134 u135 u136 u137 u138 u139 u140 : Value) (w' : World), SwRel w b k u6 w' → K ⟨#[x0, x1, x2, x3, u4, .pointer (some ⟨b, 0, none⟩), u6, x7, .pointer (some ⟨A, 0, none⟩), .int .i64 (bef : Int), u10, u11, x12, x13, x14, x15, x16, x17, x18, x19, x20, x21, x22, x23, x24, x25, x26, x27, x28, x29, x30, x31, x32, x33, x34, x35, x36, x37, x38, x39, x40, x41, x42, x43, x44, x45, .int .i64 what, u47, u48, u49, u50, u51, u52, u53, u54, u55, u56, u57, u58, u59, u60, u61, u62, u63, u64, u65, u66, u67, u68, u69, u70, u71, u72, u73, u74, u75, u76, u77, u78, u79, u80, u81, u82, u83, u84, u85, u86, u87, u88, u89, u90, u91, u92, u93, u94, u95, u96, u97, u98, u99, u100, u101, u102, u103, u104, u105, u106, u107, u108, u109, u110, u111, u112, u113, u114, u115, u116, u117, u118, u119, u120, u121, u122, u123, u124, u125, u126, u127, u128, u129, u130, u131, u132, u133, u134, u135, u136, u137, u138, u139, u140, x141, x142, x143, x144, x145, x146, x147, x148, x149, x150, x151, x152, x153, x154, x155, x156, x157, x158, x159, x160, x161, x162, x163, x164, x165, x166, x167, x168, x169, x170, x171, x172, x173, x174, x175, x176, x177, x178, x179, x180, x181, x182, x183, x184, x185, x186, x187, x188, x189, x190, x191, x192, x193, x194, x195, x196, x197, x198, x199, x200, x201, x202, x203, x204, x205, x206, x207, x208, x209, x210, x211, x212, x213, x214], []⟩ w') :
    Code.wp Try.prog swText (Exit.then K Q) ⟨#[x0, x1, x2, x3, x4, .pointer (some ⟨b, 0, none⟩), .slice p n c, x7, .pointer (some ⟨A, 0, none⟩), .int .i64 (bef : Int), x10, x11, x12, x13, x14, x15, x16, x17, x18, x19, x20, x21, x22, x23, x24, x25, x26, x27, x28, x29, x30, x31, x32, x33, x34, x35, x36, x37, x38, x39, x40, x41, x42, x43, x44, x45, .int .i64 what, x47, x48, x49, x50, x51, x52, x53, x54, x55, x56, x57, x58, x59, x60, x61, x62, x63, x64, x65, x66, x67, x68, x69, x70, x71, x72, x73, x74, x75, x76, x77, x78, x79, x80, x81, x82, x83, x84, x85, x86, x87, x88, x89, x90, x91, x92, x93, x94, x95, x96, x97, x98, x99, x100, x101, x102, x103, x104, x105, x106, x107, x108, x109, x110, x111, x112, x113, x114, x115, x116, x117, x118, x119, x120, x121, x122, x123, x124, x125, x126, x127, x128, x129, x130, x131, x132, x133, x134, x135, x136, x137, x138, x139, x140, x141, x142, x143, x144, x145, x146, x147, x148, x149, x150, x151, x152, x153, x154, x155, x156, x157, x158, x159, x160, x161, x162, x163, x164, x165, x166, x167, x168, x169, x170, x171, x172, x173, x174, x175, x176, x177, x178, x179, x180, x181, x182, x183, x184, x185, x186, x187, x188, x189, x190, x191, x192, x193, x194, x195, x196, x197, x198, x199, x200, x201, x202, x203, x204, x205, x206, x207, x208, x209, x210, x211, x212, x213, x214], []⟩ w3 := by
  have HTx := Lib.hid H.HTx
  have HXB := Lib.hid H.HXB
  have HXq := Lib.hid H.HXq
  have HNx := Lib.hid H.HNx
  have HAB := Lib.hid H.HAB
  have HAne := Lib.hid H.HAne
  have Hnl := Lib.hid H.Hnl
  have Hbef := Lib.hid H.Hbef
  have Hint := Lib.hid H.Hint
  have hk6 := H.hk6
  have hx100 := H.hx100
  have hnl : n ≤ 300 + 100 * k := by rw [H.Hnl]; exact H.HTx.ok.n
  have hpl : bef ≤ 10000 := by have := H.HTx.ok.pcs; rw [H.Hbef]; omega
  have hb2 : IntKind.i64.wrap ((bef : Int) + 2) = ((bef + 2 : Nat) : Int) := by rw [IntKind.wrap_i64]; omega
  have hb1 : IntKind.i64.wrap ((bef : Int) + 1) = ((bef + 1 : Nat) : Int) := by rw [IntKind.wrap_i64]; omega
  obtain ⟨c0, c1, c2', c3', -⟩ := HAB.out.c4
  have Hm := Lib.hid hm
  clear H hm
  conv => arg 2; whnf
  subst hw
  obtain ⟨kp, rfl⟩ : ∃ q : Nat, pos = q := ⟨pos.toNat, by omega⟩
  have hkn : (kp : Int) ≤ (n : Int) := hin.2
  have hkl : kp ≤ t.long := by have := Hnl.out; omega
  obtain ⟨_, _, _, hcode⟩ := Tb.ins_s hkl x
  have Htext := Lib.hid (Tb.ins_text HTx.out.ok hkl x)
  have Hpcs := Lib.hid (Tb.ins_pcs t (kp : Int) x)
  have Hok' := Lib.hid (Tb.ins_ok HTx.out.ok (kp : Int) x)
  have Hcode := Lib.hid hcode
  clear hcode hin
  go_wp2_with fail
  refine (ins_all (pos := (kp : Int)) HTx.out.tb (QT.nb _ _ _) HTx.out.ok (by omega) HXq.out HNx.out (by omega)).mono ?_
  rintro e w4 ⟨rfl, htb4, hE4⟩
  rw [Hcode.out]
  have HTB := Lib.hid htb4
  have HE4 := Lib.hid hE4
  have hk4 : ∀ i, w4.cell? ⟨A, i, none⟩ = w3.cell? ⟨A, i, none⟩ := fun i => cell_keep (hE4.block _ HAB.out.lt HAne.out.1)
  have a1 := (hk4 1).trans c1
  have a3 := (hk4 3).trans c3'
  have HX4 := Lib.hid (show CharRd w4 (fun j => j < w.heap.size) (.slice qa x.length da) x from Rd.ext HXq.out hE4 (fun j hj he => by have := HTx.out.hb; omega) (by decide))
  have HRw := Lib.hid (HTx.out.keep hE4)
  have Hlen := Lib.hid (show t.text.length + x.length ≤ 100000 from by rw [HTx.out.ok.text_len]; have := HTx.out.ok.n; omega)
  have Hkl := Lib.hid (show kp ≤ t.text.length from by rw [HTx.out.ok.text_len]; exact hkl)
  have hsz4 : w.heap.size ≤ w4.heap.size := Nat.le_trans HXB.out.size hE4.size
  clear htb4 hE4 hk4
  go_wp2_with fail
  refine (row_ins HRw.out hsz4 HX4.out HNx.out (fun j hj => hj) Hkl.out Hlen.out).mono ?_
  rintro e w5 ⟨v5, rfl, ho5, hE5, hb5⟩
  rw [← Htext.out] at ho5
  obtain ⟨p5, c5, rfl⟩ := own_slice ho5
  have HTx5 := Lib.hid (HTx.out.did HTB.out HE4.out ho5 hE5 hb5 Hok'.out)
  have HX5 := Lib.hid (Ext.from (Ext.from HXB.out HE4.out (fun j hj => by rw [hj]; exact HTx.out.hb)) hE5 (fun j hj => (HTx.out.row.lt j hj).1))
  have Htl := Lib.hid (Tb.Ok.text_len Hok'.out)
  clear ho5 hE5 hb5 HTB Htext Hcode HE4
  generalize t.ins (kp : Int) x = td at HTx5 Hpcs Hok' Htl ⊢
  obtain ⟨e1, t2⟩ := td
  obtain ⟨n5, hn5⟩ : ∃ n, n = t2.text.length := ⟨_, rfl⟩
  simp only at HTx5
  rw [← hn5] at HTx5 ⊢
  have Hn5 := Lib.hid (show n5 = t2.long from hn5.trans Htl.out)
  clear hn5
  go_wp2_with fail
  refine (pieces_all HTx5.out.tb HTx5.out.ok (by omega)).mono ?_
  rintro e w6 ⟨v6, rfl, ho6, hX6⟩
  obtain ⟨q6, d6, rfl⟩ := own_slice ho6
  have hp6 : t2.ps.length ≤ bef + 2 := by rw [Hbef.out]; exact Hpcs.out
  have HF := Lib.hid (And.intro (HTx5.out.below hX6) (HX5.out.trans (hX6.mono HX5.out.size)))
  clear ho6 hX6
  generalize t2.ps.length = l6 at hp6 ⊢
  go_wp2_with fail
  apply Hm.out
  exact ⟨n5, t2, p5, c5, rfl, Lib.hid ⟨Hn5.out, HF.out.1.mono (by omega), HF.out.2⟩⟩

set_option maxHeartbeats 12800000 in
set_option maxRecDepth 1000000 in
theorem sw0a {w w3 : World} {b A n bef k da : Nat} {p qa : Option Addr} {c : Nat} {t : Tb} {what pos dn : Int} {x : List Int} {K : Act → World → Prop} {Q : Exit → Act → World → Prop} {x0 x1 x2 x3 x4 x7 x10 x11 x12 x13 x14 x15 x16 x17 x18 x19 x20 x21 x22 x23 x24 x25 x26 x27 x28 x29 x30 x31 x32 x33 x34 x35 x36 x37 x38 x39 x40 x41 x42 x43 x44 x45 x47 x48 x49 x50 x51 x52 x53 x54 x55 x56 x57 x58 x59 x60 x61 x62 x63 x64 x65 x66 x67 x68 x69 x70 x71 x72 x73 x74 x75 x76 x77 x78 x79 x80 x81 x82 x83 x84 x85 x86 x87 x88 x89 x90 x91 x92 x93 x94 x95 x96 x97 x98 x99 x100 x101 x102 x103 x104 x105 x106 x107 x108 x109 x110 x111 x112 x113 x114 x115 x116 x117 x118 x119 x120 x121 x122 x123 x124 x125 x126 x127 x128 x129 x130 x131 x132 x133 x134 x135 x136 x137 x138 x139 x140 x141 x142 x143 x144 x145 x146 x147 x148 x149 x150 x151 x152 x153 x154 x155 x156 x157 x158 x159 x160 x161 x162 x163 x164 x165 x166 x167 x168 x169 x170 x171 x172 x173 x174 x175 x176 x177 x178 x179 x180 x181 x182 x183 x184 x185 x186 x187 x188 x189 x190 x191 x192 x193 x194 x195 x196 x197 x198 x199 x200 x201 x202 x203 x204 x205 x206 x207 x208 x209 x210 x211 x212 x213 x214 : Value}
    (H : SwH w w3 b A n bef k da p qa c t what pos dn x) (hw : what = 0) (hp0 : pos < 0)
    (hm : ∀ (u4 u6 u10 u11 u47 u48 u49 u50 u51 u52 u53 u54 u55 u56 u57 u58 u59 u60 u61 u62 u63 u64 u65 u66 u67 u68 u69 u70 u71 u72 u73 u74 u75 u76 u77 u78 u79 u80 u81 u82 u83 u84 u85 u86 u87 u88 u89 u90 u91 u92 u93 u94 u95 u96 u97 u98 u99 u100 u101 u102 u103 u104 u105 u106 u107 u108 u109 u110 u111 u112 u113 u114 u115 u116 u117 u118 u119 u120 u121 u122 u123 u124 u125 u126 u127 u128 u129 u130 u131 u132 u133 u134 u135 u136 u137 u138 u139 u140 : Value) (w' : World), SwRel w b k u6 w' → K ⟨#[x0, x1, x2, x3, u4, .pointer (some ⟨b, 0, none⟩), u6, x7, .pointer (some ⟨A, 0, none⟩), .int .i64 (bef : Int), u10, u11, x12, x13, x14, x15, x16, x17, x18, x19, x20, x21, x22, x23, x24, x25, x26, x27, x28, x29, x30, x31, x32, x33, x34, x35, x36, x37, x38, x39, x40, x41, x42, x43, x44, x45, .int .i64 what, u47, u48, u49, u50, u51, u52, u53, u54, u55, u56, u57, u58, u59, u60, u61, u62, u63, u64, u65, u66, u67, u68, u69, u70, u71, u72, u73, u74, u75, u76, u77, u78, u79, u80, u81, u82, u83, u84, u85, u86, u87, u88, u89, u90, u91, u92, u93, u94, u95, u96, u97, u98, u99, u100, u101, u102, u103, u104, u105, u106, u107, u108, u109, u110, u111, u112, u113, u114, u115, u116, u117, u118, u119, u120, u121, u122, u123, u124, u125, u126, u127, u128, u129, u130, u131, u132, u133, u134, u135, u136, u137, u138, u139, u140, x141, x142, x143, x144, x145, x146, x147, x148, x149, x150, x151, x152, x153, x154, x155, x156, x157, x158, x159, x160, x161, x162, x163, x164, x165, x166, x167, x168, x169, x170, x171, x172, x173, x174, x175, x176, x177, x178, x179, x180, x181, x182, x183, x184, x185, x186, x187, x188, x189, x190, x191, x192, x193, x194, x195, x196, x197, x198, x199, x200, x201, x202, x203, x204, x205, x206, x207, x208, x209, x210, x211, x212, x213, x214], []⟩ w') :
    Code.wp Try.prog swText (Exit.then K Q) ⟨#[x0, x1, x2, x3, x4, .pointer (some ⟨b, 0, none⟩), .slice p n c, x7, .pointer (some ⟨A, 0, none⟩), .int .i64 (bef : Int), x10, x11, x12, x13, x14, x15, x16, x17, x18, x19, x20, x21, x22, x23, x24, x25, x26, x27, x28, x29, x30, x31, x32, x33, x34, x35, x36, x37, x38, x39, x40, x41, x42, x43, x44, x45, .int .i64 what, x47, x48, x49, x50, x51, x52, x53, x54, x55, x56, x57, x58, x59, x60, x61, x62, x63, x64, x65, x66, x67, x68, x69, x70, x71, x72, x73, x74, x75, x76, x77, x78, x79, x80, x81, x82, x83, x84, x85, x86, x87, x88, x89, x90, x91, x92, x93, x94, x95, x96, x97, x98, x99, x100, x101, x102, x103, x104, x105, x106, x107, x108, x109, x110, x111, x112, x113, x114, x115, x116, x117, x118, x119, x120, x121, x122, x123, x124, x125, x126, x127, x128, x129, x130, x131, x132, x133, x134, x135, x136, x137, x138, x139, x140, x141, x142, x143, x144, x145, x146, x147, x148, x149, x150, x151, x152, x153, x154, x155, x156, x157, x158, x159, x160, x161, x162, x163, x164, x165, x166, x167, x168, x169, x170, x171, x172, x173, x174, x175, x176, x177, x178, x179, x180, x181, x182, x183, x184, x185, x186, x187, x188, x189, x190, x191, x192, x193, x194, x195, x196, x197, x198, x199, x200, x201, x202, x203, x204, x205, x206, x207, x208, x209, x210, x211, x212, x213, x214], []⟩ w3 := by
  have HTx := Lib.hid H.HTx
  have HXB := Lib.hid H.HXB
  have HXq := Lib.hid H.HXq
  have HNx := Lib.hid H.HNx
  have HAB := Lib.hid H.HAB
  have HAne := Lib.hid H.HAne
  have Hnl := Lib.hid H.Hnl
  have Hbef := Lib.hid H.Hbef
  have Hint := Lib.hid H.Hint
  have hk6 := H.hk6
  have hx100 := H.hx100
  have hnl : n ≤ 300 + 100 * k := by rw [H.Hnl]; exact H.HTx.ok.n
  have hpl : bef ≤ 10000 := by have := H.HTx.ok.pcs; rw [H.Hbef]; omega
  have hb2 : IntKind.i64.wrap ((bef : Int) + 2) = ((bef + 2 : Nat) : Int) := by rw [IntKind.wrap_i64]; omega
  have hb1 : IntKind.i64.wrap ((bef : Int) + 1) = ((bef + 1 : Nat) : Int) := by rw [IntKind.wrap_i64]; omega
  obtain ⟨c0, c1, c2', c3', -⟩ := HAB.out.c4
  have Hm := Lib.hid hm
  clear H hm
  conv => arg 2; whnf
  subst hw
  have Hno := Lib.hid (Tb.ins_no (t := t) (pos := pos) (by have := Hnl.out; omega) x)
  go_wp2_with fail
  refine (ins_all (pos := pos) HTx.out.tb (QT.nb _ _ _) HTx.out.ok (by omega) HXq.out HNx.out (by omega)).mono ?_
  rintro e w4 ⟨rfl, htb4, hE4⟩
  rw [Hno.out] at htb4 ⊢
  have HF := Lib.hid (And.intro (HTx.out.same htb4 hE4 rfl HTx.out.ok) (Ext.from HXB.out hE4 (fun j hj => by rw [hj]; exact HTx.out.hb)))
  clear htb4 hE4
  go_wp2_with fail
  refine (pieces_all HF.out.1.tb HF.out.1.ok (by omega)).mono ?_
  rintro e w6 ⟨v6, rfl, ho6, hX6⟩
  obtain ⟨q6, d6, rfl⟩ := own_slice ho6
  have hp6 : t.ps.length ≤ bef := by rw [Hbef.out]; exact Nat.le_refl _
  have HG := Lib.hid (And.intro (HF.out.1.below hX6) (HF.out.2.trans (hX6.mono HF.out.2.size)))
  clear ho6 hX6
  generalize t.ps.length = l6 at hp6 ⊢
  go_wp2_with fail
  apply Hm.out
  exact ⟨n, t, p, c, rfl, Lib.hid ⟨Hnl.out, HG.out.1.mono (by omega), HG.out.2⟩⟩

set_option maxHeartbeats 12800000 in
set_option maxRecDepth 1000000 in
theorem sw0b {w w3 : World} {b A n bef k da : Nat} {p qa : Option Addr} {c : Nat} {t : Tb} {what pos dn : Int} {x : List Int} {K : Act → World → Prop} {Q : Exit → Act → World → Prop} {x0 x1 x2 x3 x4 x7 x10 x11 x12 x13 x14 x15 x16 x17 x18 x19 x20 x21 x22 x23 x24 x25 x26 x27 x28 x29 x30 x31 x32 x33 x34 x35 x36 x37 x38 x39 x40 x41 x42 x43 x44 x45 x47 x48 x49 x50 x51 x52 x53 x54 x55 x56 x57 x58 x59 x60 x61 x62 x63 x64 x65 x66 x67 x68 x69 x70 x71 x72 x73 x74 x75 x76 x77 x78 x79 x80 x81 x82 x83 x84 x85 x86 x87 x88 x89 x90 x91 x92 x93 x94 x95 x96 x97 x98 x99 x100 x101 x102 x103 x104 x105 x106 x107 x108 x109 x110 x111 x112 x113 x114 x115 x116 x117 x118 x119 x120 x121 x122 x123 x124 x125 x126 x127 x128 x129 x130 x131 x132 x133 x134 x135 x136 x137 x138 x139 x140 x141 x142 x143 x144 x145 x146 x147 x148 x149 x150 x151 x152 x153 x154 x155 x156 x157 x158 x159 x160 x161 x162 x163 x164 x165 x166 x167 x168 x169 x170 x171 x172 x173 x174 x175 x176 x177 x178 x179 x180 x181 x182 x183 x184 x185 x186 x187 x188 x189 x190 x191 x192 x193 x194 x195 x196 x197 x198 x199 x200 x201 x202 x203 x204 x205 x206 x207 x208 x209 x210 x211 x212 x213 x214 : Value}
    (H : SwH w w3 b A n bef k da p qa c t what pos dn x) (hw : what = 0) (hp0 : ¬ pos < 0) (hpn : (n : Int) < pos)
    (hm : ∀ (u4 u6 u10 u11 u47 u48 u49 u50 u51 u52 u53 u54 u55 u56 u57 u58 u59 u60 u61 u62 u63 u64 u65 u66 u67 u68 u69 u70 u71 u72 u73 u74 u75 u76 u77 u78 u79 u80 u81 u82 u83 u84 u85 u86 u87 u88 u89 u90 u91 u92 u93 u94 u95 u96 u97 u98 u99 u100 u101 u102 u103 u104 u105 u106 u107 u108 u109 u110 u111 u112 u113 u114 u115 u116 u117 u118 u119 u120 u121 u122 u123 u124 u125 u126 u127 u128 u129 u130 u131 u132 u133 u134 u135 u136 u137 u138 u139 u140 : Value) (w' : World), SwRel w b k u6 w' → K ⟨#[x0, x1, x2, x3, u4, .pointer (some ⟨b, 0, none⟩), u6, x7, .pointer (some ⟨A, 0, none⟩), .int .i64 (bef : Int), u10, u11, x12, x13, x14, x15, x16, x17, x18, x19, x20, x21, x22, x23, x24, x25, x26, x27, x28, x29, x30, x31, x32, x33, x34, x35, x36, x37, x38, x39, x40, x41, x42, x43, x44, x45, .int .i64 what, u47, u48, u49, u50, u51, u52, u53, u54, u55, u56, u57, u58, u59, u60, u61, u62, u63, u64, u65, u66, u67, u68, u69, u70, u71, u72, u73, u74, u75, u76, u77, u78, u79, u80, u81, u82, u83, u84, u85, u86, u87, u88, u89, u90, u91, u92, u93, u94, u95, u96, u97, u98, u99, u100, u101, u102, u103, u104, u105, u106, u107, u108, u109, u110, u111, u112, u113, u114, u115, u116, u117, u118, u119, u120, u121, u122, u123, u124, u125, u126, u127, u128, u129, u130, u131, u132, u133, u134, u135, u136, u137, u138, u139, u140, x141, x142, x143, x144, x145, x146, x147, x148, x149, x150, x151, x152, x153, x154, x155, x156, x157, x158, x159, x160, x161, x162, x163, x164, x165, x166, x167, x168, x169, x170, x171, x172, x173, x174, x175, x176, x177, x178, x179, x180, x181, x182, x183, x184, x185, x186, x187, x188, x189, x190, x191, x192, x193, x194, x195, x196, x197, x198, x199, x200, x201, x202, x203, x204, x205, x206, x207, x208, x209, x210, x211, x212, x213, x214], []⟩ w') :
    Code.wp Try.prog swText (Exit.then K Q) ⟨#[x0, x1, x2, x3, x4, .pointer (some ⟨b, 0, none⟩), .slice p n c, x7, .pointer (some ⟨A, 0, none⟩), .int .i64 (bef : Int), x10, x11, x12, x13, x14, x15, x16, x17, x18, x19, x20, x21, x22, x23, x24, x25, x26, x27, x28, x29, x30, x31, x32, x33, x34, x35, x36, x37, x38, x39, x40, x41, x42, x43, x44, x45, .int .i64 what, x47, x48, x49, x50, x51, x52, x53, x54, x55, x56, x57, x58, x59, x60, x61, x62, x63, x64, x65, x66, x67, x68, x69, x70, x71, x72, x73, x74, x75, x76, x77, x78, x79, x80, x81, x82, x83, x84, x85, x86, x87, x88, x89, x90, x91, x92, x93, x94, x95, x96, x97, x98, x99, x100, x101, x102, x103, x104, x105, x106, x107, x108, x109, x110, x111, x112, x113, x114, x115, x116, x117, x118, x119, x120, x121, x122, x123, x124, x125, x126, x127, x128, x129, x130, x131, x132, x133, x134, x135, x136, x137, x138, x139, x140, x141, x142, x143, x144, x145, x146, x147, x148, x149, x150, x151, x152, x153, x154, x155, x156, x157, x158, x159, x160, x161, x162, x163, x164, x165, x166, x167, x168, x169, x170, x171, x172, x173, x174, x175, x176, x177, x178, x179, x180, x181, x182, x183, x184, x185, x186, x187, x188, x189, x190, x191, x192, x193, x194, x195, x196, x197, x198, x199, x200, x201, x202, x203, x204, x205, x206, x207, x208, x209, x210, x211, x212, x213, x214], []⟩ w3 := by
  have HTx := Lib.hid H.HTx
  have HXB := Lib.hid H.HXB
  have HXq := Lib.hid H.HXq
  have HNx := Lib.hid H.HNx
  have HAB := Lib.hid H.HAB
  have HAne := Lib.hid H.HAne
  have Hnl := Lib.hid H.Hnl
  have Hbef := Lib.hid H.Hbef
  have Hint := Lib.hid H.Hint
  have hk6 := H.hk6
  have hx100 := H.hx100
  have hnl : n ≤ 300 + 100 * k := by rw [H.Hnl]; exact H.HTx.ok.n
  have hpl : bef ≤ 10000 := by have := H.HTx.ok.pcs; rw [H.Hbef]; omega
  have hb2 : IntKind.i64.wrap ((bef : Int) + 2) = ((bef + 2 : Nat) : Int) := by rw [IntKind.wrap_i64]; omega
  have hb1 : IntKind.i64.wrap ((bef : Int) + 1) = ((bef + 1 : Nat) : Int) := by rw [IntKind.wrap_i64]; omega
  obtain ⟨c0, c1, c2', c3', -⟩ := HAB.out.c4
  have Hm := Lib.hid hm
  clear H hm
  conv => arg 2; whnf
  subst hw
  have Hno := Lib.hid (Tb.ins_no (t := t) (pos := pos) (by have := Hnl.out; omega) x)
  go_wp2_with fail
  refine (ins_all (pos := pos) HTx.out.tb (QT.nb _ _ _) HTx.out.ok (by omega) HXq.out HNx.out (by omega)).mono ?_
  rintro e w4 ⟨rfl, htb4, hE4⟩
  rw [Hno.out] at htb4 ⊢
  have HF := Lib.hid (And.intro (HTx.out.same htb4 hE4 rfl HTx.out.ok) (Ext.from HXB.out hE4 (fun j hj => by rw [hj]; exact HTx.out.hb)))
  clear htb4 hE4
  go_wp2_with fail
  refine (pieces_all HF.out.1.tb HF.out.1.ok (by omega)).mono ?_
  rintro e w6 ⟨v6, rfl, ho6, hX6⟩
  obtain ⟨q6, d6, rfl⟩ := own_slice ho6
  have hp6 : t.ps.length ≤ bef := by rw [Hbef.out]; exact Nat.le_refl _
  have HG := Lib.hid (And.intro (HF.out.1.below hX6) (HF.out.2.trans (hX6.mono HF.out.2.size)))
  clear ho6 hX6
  generalize t.ps.length = l6 at hp6 ⊢
  go_wp2_with fail
  apply Hm.out
  exact ⟨n, t, p, c, rfl, Lib.hid ⟨Hnl.out, HG.out.1.mono (by omega), HG.out.2⟩⟩

end Go.Proofs.Ytelaiafpfaohfaa
