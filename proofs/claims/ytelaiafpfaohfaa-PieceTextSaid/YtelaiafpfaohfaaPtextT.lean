/-
  PieceText's switch: what each of its further cases leaves. (Printed by wip/gen_ptext.py.)
-/
import Derived.Test.YtelaiafpfaohfaaPtextS
namespace Go.Proofs.Ytelaiafpfaohfaa
open Go.RowKit
set_option linter.unusedSimpArgs false
set_option linter.unusedVariables false


set_option maxHeartbeats 12800000 in
set_option maxRecDepth 1000000 in
theorem sw1t {w w3 : World} {b A n bef k da : Nat} {p qa : Option Addr} {c : Nat} {t : Tb} {what pos dn : Int} {x : List Int} {K : Act → World → Prop} {Q : Exit → Act → World → Prop} {x0 x1 x2 x3 x4 x7 x10 x11 x12 x13 x14 x15 x16 x17 x18 x19 x20 x21 x22 x23 x24 x25 x26 x27 x28 x29 x30 x31 x32 x33 x34 x35 x36 x37 x38 x39 x40 x41 x42 x43 x44 x45 x47 x48 x49 x50 x51 x52 x53 x54 x55 x56 x57 x58 x59 x60 x61 x62 x63 x64 x65 x66 x67 x68 x69 x70 x71 x72 x73 x74 x75 x76 x77 x78 x79 x80 x81 x82 x83 x84 x85 x86 x87 x88 x89 x90 x91 x92 x93 x94 x95 x96 x97 x98 x99 x100 x101 x102 x103 x104 x105 x106 x107 x108 x109 x110 x111 x112 x113 x114 x115 x116 x117 x118 x119 x120 x121 x122 x123 x124 x125 x126 x127 x128 x129 x130 x131 x132 x133 x134 x135 x136 x137 x138 x139 x140 x141 x142 x143 x144 x145 x146 x147 x148 x149 x150 x151 x152 x153 x154 x155 x156 x157 x158 x159 x160 x161 x162 x163 x164 x165 x166 x167 x168 x169 x170 x171 x172 x173 x174 x175 x176 x177 x178 x179 x180 x181 x182 x183 x184 x185 x186 x187 x188 x189 x190 x191 x192 x193 x194 x195 x196 x197 x198 x199 x200 x201 x202 x203 x204 x205 x206 x207 x208 x209 x210 x211 x212 x213 x214 : Value}
    (H : SwH w w3 b A n bef k da p qa c t what pos dn x) (hw : what = 1) (hit : inText n pos dn = true)
    (hm : ∀ (u4 u6 u10 u11 u47 u48 u49 u50 u51 u52 u53 u54 u55 u56 u57 u58 u59 u60 u61 u62 u63 u64 u65 u66 u67 u68 u69 u70 u71 u72 u73 u74 u75 u76 u77 u78 u79 u80 u81 u82 u83 u84 u85 u86 u87 u88 u89 u90 u91 u92 u93 u94 u95 u96 u97 u98 u99 u100 u101 u102 u103 u104 u105 u106 u107 u108 u109 u110 u111 u112 u113 u114 u115 u116 u117 u118 u119 u120 u121 u122 u123 u124 u125 u126 u127 u128 u129 u130 u131 u132 u133 u134 u135 u136 u137 u138 u139 u140 : Value) (w' : World), SwRel w b k u6 w' → K ⟨#[x0, x1, x2, x3, u4, .pointer (some ⟨b, 0, none⟩), u6, x7, .pointer (some ⟨A, 0, none⟩), .int .i64 (bef : Int), u10, u11, x12, x13, x14, x15, x16, x17, x18, x19, x20, x21, x22, x23, x24, x25, x26, x27, x28, x29, x30, x31, x32, x33, x34, x35, x36, x37, x38, x39, x40, x41, x42, x43, x44, x45, .int .i64 what, u47, u48, u49, u50, u51, u52, u53, u54, u55, u56, u57, u58, u59, u60, u61, u62, u63, u64, u65, u66, u67, u68, u69, u70, u71, u72, u73, u74, u75, u76, u77, u78, u79, u80, u81, u82, u83, u84, u85, u86, u87, u88, u89, u90, u91, u92, u93, u94, u95, u96, u97, u98, u99, u100, u101, u102, u103, u104, u105, u106, u107, u108, u109, u110, u111, u112, u113, u114, u115, u116, u117, u118, u119, u120, u121, u122, u123, u124, u125, u126, u127, u128, u129, u130, u131, u132, u133, u134, u135, u136, u137, u138, u139, u140, x141, x142, x143, x144, x145, x146, x147, x148, x149, x150, x151, x152, x153, x154, x155, x156, x157, x158, x159, x160, x161, x162, x163, x164, x165, x166, x167, x168, x169, x170, x171, x172, x173, x174, x175, x176, x177, x178, x179, x180, x181, x182, x183, x184, x185, x186, x187, x188, x189, x190, x191, x192, x193, x194, x195, x196, x197, x198, x199, x200, x201, x202, x203, x204, x205, x206, x207, x208, x209, x210, x211, x212, x213, x214], []⟩ w') :
    Code.wp Try.prog swText (Exit.then K Q) ⟨#[x0, x1, x2, x3, x4, .pointer (some ⟨b, 0, none⟩), .slice p n c, x7, .pointer (some ⟨A, 0, none⟩), .int .i64 (bef : Int), x10, x11, x12, x13, x14, x15, x16, x17, x18, x19, x20, x21, x22, x23, x24, x25, x26, x27, x28, x29, x30, x31, x32, x33, x34, x35, x36, x37, x38, x39, x40, x41, x42, x43, x44, x45, .int .i64 what, x47, x48, x49, x50, x51, x52, x53, x54, x55, x56, x57, x58, x59, x60, x61, x62, x63, x64, x65, x66, x67, x68, x69, x70, x71, x72, x73, x74, x75, x76, x77, x78, x79, x80, x81, x82, x83, x84, x85, x86, x87, x88, x89, x90, x91, x92, x93, x94, x95, x96, x97, x98, x99, x100, x101, x102, x103, x104, x105, x106, x107, x108, x109, x110, x111, x112, x113, x114, x115, x116, x117, x118, x119, x120, x121, x122, x123, x124, x125, x126, x127, x128, x129, x130, x131, x132, x133, x134, x135, x136, x137, x138, x139, x140, x141, x142, x143, x144, x145, x146, x147, x148, x149, x150, x151, x152, x153, x154, x155, x156, x157, x158, x159, x160, x161, x162, x163, x164, x165, x166, x167, x168, x169, x170, x171, x172, x173, x174, x175, x176, x177, x178, x179, x180, x181, x182, x183, x184, x185, x186, x187, x188, x189, x190, x191, x192, x193, x194, x195, x196, x197, x198, x199, x200, x201, x202, x203, x204, x205, x206, x207, x208, x209, x210, x211, x212, x213, x214], []⟩ w3 := by
  have HTx := Lib.hid H.HTx
  have HXB := Lib.hid H.HXB
  have HXq := Lib.hid H.HXq
  have HNx := Lib.hid H.HNx
  have HAB := Lib.hid H.HAB
  have HAne := Lib.hid H.HAne
  have Hnl := Lib.hid H.Hnl
  have Hbef := Lib.hid H.Hbef
  have Hint := Lib.hid H.Hint
  have hk6 := H.hk6
  have hx100 := H.hx100
  have hnl : n ≤ 300 + 100 * k := by rw [H.Hnl]; exact H.HTx.ok.n
  have hpl : bef ≤ 10000 := by have := H.HTx.ok.pcs; rw [H.Hbef]; omega
  have hb2 : IntKind.i64.wrap ((bef : Int) + 2) = ((bef + 2 : Nat) : Int) := by rw [IntKind.wrap_i64]; omega
  have hb1 : IntKind.i64.wrap ((bef : Int) + 1) = ((bef + 1 : Nat) : Int) := by rw [IntKind.wrap_i64]; omega
  obtain ⟨c0, c1, c2', c3', -⟩ := HAB.out.c4
  have Hm := Lib.hid hm
  clear H hm
  conv => arg 2; whnf
  subst hw
  obtain ⟨kp, kn, rfl, rfl, hkk⟩ := Tb.inText_iff.1 hit
  have hkn : (kp : Int) ≤ (n : Int) := by omega
  obtain ⟨s1, hs1⟩ : ∃ s, s = n - kp := ⟨_, rfl⟩
  have hws1 : IntKind.i64.wrap ((n : Int) - (kp : Int)) = (s1 : Int) := by rw [IntKind.wrap_i64]; omega
  have hs1i : (kn : Int) ≤ (s1 : Int) := by omega
  obtain ⟨s2, hs2⟩ : ∃ s, s = kp + kn := ⟨_, rfl⟩
  have hws2 : IntKind.i64.wrap ((kp : Int) + (kn : Int)) = (s2 : Int) := by rw [IntKind.wrap_i64]; omega
  have hkl : kp + kn ≤ t.long := by have := Hnl.out; omega
  obtain ⟨_, _, _, hcode⟩ := Tb.del_s hkl
  have Htext := Lib.hid (Tb.del_text HTx.out.ok hkl)
  have Hpcs := Lib.hid (Tb.del_pcs HTx.out.ok (kp : Int) (kn : Int))
  have Hok' := Lib.hid (Tb.del_ok HTx.out.ok (kp : Int) (kn : Int))
  have Hcode := Lib.hid hcode
  have Hs2 := Lib.hid hs2
  clear hcode hs1 hs2 hit
  go_wp2_with fail
  refine (del_all (pos := (kp : Int)) (n := (kn : Int)) HTx.out.tb (QT.nb _ _ _) HTx.out.ok (by omega) Hint.out.1 Hint.out.2).mono ?_
  rintro e w4 ⟨rfl, htb4, hE4⟩
  rw [Hcode.out]
  have HTB := Lib.hid htb4
  have HE4 := Lib.hid hE4
  have hk4 : ∀ i, w4.cell? ⟨A, i, none⟩ = w3.cell? ⟨A, i, none⟩ := fun i => cell_keep (hE4.block _ HAB.out.lt HAne.out.1)
  have a1 := (hk4 1).trans c1
  have a2 := (hk4 2).trans c2'
  obtain ⟨l1, l2, l3, hl, hl1, hl2⟩ : ∃ l1 l2 l3, t.text = l1 ++ l2 ++ l3 ∧ kp = l1.length ∧ kn = l2.length := by
    refine ⟨t.text.take kp, (t.text.drop kp).take kn, t.text.drop (kp + kn), ?_, ?_, ?_⟩
    · rw [List.append_assoc, ← List.drop_drop, List.take_append_drop, List.take_append_drop]
    · rw [List.length_take, HTx.out.ok.text_len]; omega
    · rw [List.length_take, List.length_drop, HTx.out.ok.text_len]; omega
  have htx2 : (t.del (kp : Int) (kn : Int)).2.text = l1 ++ l3 := by
    rw [Htext.out, hl, hl1, hl2, ← List.length_append, List.drop_left, List.append_assoc, List.take_left]
  have hRw := HTx.out.keep hE4
  rw [hl] at hRw
  have Hdel := Lib.hid (row_del (i := kp) (j := s2) hRw hl1 (by rw [Hs2.out, hl1, hl2]) (by rw [← hl, HTx.out.ok.text_len]; have := HTx.out.ok.n; omega))
  have Htx2 := Lib.hid htx2
  clear htb4 hE4 hk4 hl hl1 hl2 htx2 hRw
  go_wp2_with fail
  refine Hdel.out.mono ?_
  rintro e w5 ⟨v5, rfl, ho5, hE5, hb5⟩
  rw [← Htx2.out] at ho5
  obtain ⟨p5, c5, rfl⟩ := own_slice ho5
  have HTx5 := Lib.hid (HTx.out.did HTB.out HE4.out ho5 hE5 hb5 Hok'.out)
  have HX5 := Lib.hid (Ext.from (Ext.from HXB.out HE4.out (fun j hj => by rw [hj]; exact HTx.out.hb)) hE5 (fun j hj => (HTx.out.row.lt j hj).1))
  have Htl := Lib.hid (Tb.Ok.text_len Hok'.out)
  clear ho5 hE5 hb5 Hdel Htx2 HTB Htext Hcode HE4
  generalize t.del (kp : Int) (kn : Int) = td at HTx5 Hpcs Hok' Htl ⊢
  obtain ⟨e1, t2⟩ := td
  obtain ⟨n5, hn5⟩ : ∃ n, n = t2.text.length := ⟨_, rfl⟩
  simp only at HTx5
  rw [← hn5] at HTx5 ⊢
  have Hn5 := Lib.hid (show n5 = t2.long from hn5.trans Htl.out)
  clear hn5
  go_wp2_with fail
  refine (pieces_all HTx5.out.tb HTx5.out.ok (by omega)).mono ?_
  rintro e w6 ⟨v6, rfl, ho6, hX6⟩
  obtain ⟨q6, d6, rfl⟩ := own_slice ho6
  have hp6 : t2.ps.length ≤ bef + 1 := by rw [Hbef.out]; exact Hpcs.out
  have HF := Lib.hid (And.intro (HTx5.out.below hX6) (HX5.out.trans (hX6.mono HX5.out.size)))
  clear ho6 hX6
  generalize t2.ps.length = l6 at hp6 ⊢
  go_wp2_with fail
  apply Hm.out
  exact ⟨n5, t2, p5, c5, rfl, Lib.hid ⟨Hn5.out, HF.out.1.mono (by omega), HF.out.2⟩⟩

set_option maxHeartbeats 12800000 in
set_option maxRecDepth 1000000 in
theorem sw1a {w w3 : World} {b A n bef k da : Nat} {p qa : Option Addr} {c : Nat} {t : Tb} {what pos dn : Int} {x : List Int} {K : Act → World → Prop} {Q : Exit → Act → World → Prop} {x0 x1 x2 x3 x4 x7 x10 x11 x12 x13 x14 x15 x16 x17 x18 x19 x20 x21 x22 x23 x24 x25 x26 x27 x28 x29 x30 x31 x32 x33 x34 x35 x36 x37 x38 x39 x40 x41 x42 x43 x44 x45 x47 x48 x49 x50 x51 x52 x53 x54 x55 x56 x57 x58 x59 x60 x61 x62 x63 x64 x65 x66 x67 x68 x69 x70 x71 x72 x73 x74 x75 x76 x77 x78 x79 x80 x81 x82 x83 x84 x85 x86 x87 x88 x89 x90 x91 x92 x93 x94 x95 x96 x97 x98 x99 x100 x101 x102 x103 x104 x105 x106 x107 x108 x109 x110 x111 x112 x113 x114 x115 x116 x117 x118 x119 x120 x121 x122 x123 x124 x125 x126 x127 x128 x129 x130 x131 x132 x133 x134 x135 x136 x137 x138 x139 x140 x141 x142 x143 x144 x145 x146 x147 x148 x149 x150 x151 x152 x153 x154 x155 x156 x157 x158 x159 x160 x161 x162 x163 x164 x165 x166 x167 x168 x169 x170 x171 x172 x173 x174 x175 x176 x177 x178 x179 x180 x181 x182 x183 x184 x185 x186 x187 x188 x189 x190 x191 x192 x193 x194 x195 x196 x197 x198 x199 x200 x201 x202 x203 x204 x205 x206 x207 x208 x209 x210 x211 x212 x213 x214 : Value}
    (H : SwH w w3 b A n bef k da p qa c t what pos dn x) (hw : what = 1) (hp0 : pos < 0)
    (hm : ∀ (u4 u6 u10 u11 u47 u48 u49 u50 u51 u52 u53 u54 u55 u56 u57 u58 u59 u60 u61 u62 u63 u64 u65 u66 u67 u68 u69 u70 u71 u72 u73 u74 u75 u76 u77 u78 u79 u80 u81 u82 u83 u84 u85 u86 u87 u88 u89 u90 u91 u92 u93 u94 u95 u96 u97 u98 u99 u100 u101 u102 u103 u104 u105 u106 u107 u108 u109 u110 u111 u112 u113 u114 u115 u116 u117 u118 u119 u120 u121 u122 u123 u124 u125 u126 u127 u128 u129 u130 u131 u132 u133 u134 u135 u136 u137 u138 u139 u140 : Value) (w' : World), SwRel w b k u6 w' → K ⟨#[x0, x1, x2, x3, u4, .pointer (some ⟨b, 0, none⟩), u6, x7, .pointer (some ⟨A, 0, none⟩), .int .i64 (bef : Int), u10, u11, x12, x13, x14, x15, x16, x17, x18, x19, x20, x21, x22, x23, x24, x25, x26, x27, x28, x29, x30, x31, x32, x33, x34, x35, x36, x37, x38, x39, x40, x41, x42, x43, x44, x45, .int .i64 what, u47, u48, u49, u50, u51, u52, u53, u54, u55, u56, u57, u58, u59, u60, u61, u62, u63, u64, u65, u66, u67, u68, u69, u70, u71, u72, u73, u74, u75, u76, u77, u78, u79, u80, u81, u82, u83, u84, u85, u86, u87, u88, u89, u90, u91, u92, u93, u94, u95, u96, u97, u98, u99, u100, u101, u102, u103, u104, u105, u106, u107, u108, u109, u110, u111, u112, u113, u114, u115, u116, u117, u118, u119, u120, u121, u122, u123, u124, u125, u126, u127, u128, u129, u130, u131, u132, u133, u134, u135, u136, u137, u138, u139, u140, x141, x142, x143, x144, x145, x146, x147, x148, x149, x150, x151, x152, x153, x154, x155, x156, x157, x158, x159, x160, x161, x162, x163, x164, x165, x166, x167, x168, x169, x170, x171, x172, x173, x174, x175, x176, x177, x178, x179, x180, x181, x182, x183, x184, x185, x186, x187, x188, x189, x190, x191, x192, x193, x194, x195, x196, x197, x198, x199, x200, x201, x202, x203, x204, x205, x206, x207, x208, x209, x210, x211, x212, x213, x214], []⟩ w') :
    Code.wp Try.prog swText (Exit.then K Q) ⟨#[x0, x1, x2, x3, x4, .pointer (some ⟨b, 0, none⟩), .slice p n c, x7, .pointer (some ⟨A, 0, none⟩), .int .i64 (bef : Int), x10, x11, x12, x13, x14, x15, x16, x17, x18, x19, x20, x21, x22, x23, x24, x25, x26, x27, x28, x29, x30, x31, x32, x33, x34, x35, x36, x37, x38, x39, x40, x41, x42, x43, x44, x45, .int .i64 what, x47, x48, x49, x50, x51, x52, x53, x54, x55, x56, x57, x58, x59, x60, x61, x62, x63, x64, x65, x66, x67, x68, x69, x70, x71, x72, x73, x74, x75, x76, x77, x78, x79, x80, x81, x82, x83, x84, x85, x86, x87, x88, x89, x90, x91, x92, x93, x94, x95, x96, x97, x98, x99, x100, x101, x102, x103, x104, x105, x106, x107, x108, x109, x110, x111, x112, x113, x114, x115, x116, x117, x118, x119, x120, x121, x122, x123, x124, x125, x126, x127, x128, x129, x130, x131, x132, x133, x134, x135, x136, x137, x138, x139, x140, x141, x142, x143, x144, x145, x146, x147, x148, x149, x150, x151, x152, x153, x154, x155, x156, x157, x158, x159, x160, x161, x162, x163, x164, x165, x166, x167, x168, x169, x170, x171, x172, x173, x174, x175, x176, x177, x178, x179, x180, x181, x182, x183, x184, x185, x186, x187, x188, x189, x190, x191, x192, x193, x194, x195, x196, x197, x198, x199, x200, x201, x202, x203, x204, x205, x206, x207, x208, x209, x210, x211, x212, x213, x214], []⟩ w3 := by
  have HTx := Lib.hid H.HTx
  have HXB := Lib.hid H.HXB
  have HXq := Lib.hid H.HXq
  have HNx := Lib.hid H.HNx
  have HAB := Lib.hid H.HAB
  have HAne := Lib.hid H.HAne
  have Hnl := Lib.hid H.Hnl
  have Hbef := Lib.hid H.Hbef
  have Hint := Lib.hid H.Hint
  have hk6 := H.hk6
  have hx100 := H.hx100
  have hnl : n ≤ 300 + 100 * k := by rw [H.Hnl]; exact H.HTx.ok.n
  have hpl : bef ≤ 10000 := by have := H.HTx.ok.pcs; rw [H.Hbef]; omega
  have hb2 : IntKind.i64.wrap ((bef : Int) + 2) = ((bef + 2 : Nat) : Int) := by rw [IntKind.wrap_i64]; omega
  have hb1 : IntKind.i64.wrap ((bef : Int) + 1) = ((bef + 1 : Nat) : Int) := by rw [IntKind.wrap_i64]; omega
  obtain ⟨c0, c1, c2', c3', -⟩ := HAB.out.c4
  have Hm := Lib.hid hm
  clear H hm
  conv => arg 2; whnf
  subst hw
  have Hno := Lib.hid (show t.del pos dn = (30, t) from Tb.del_no (by unfold inText; exact decide_eq_false (fun h => by have := Hnl.out; omega)))
  go_wp2_with fail
  refine (del_all (pos := pos) (n := dn) HTx.out.tb (QT.nb _ _ _) HTx.out.ok (by omega) Hint.out.1 Hint.out.2).mono ?_
  rintro e w4 ⟨rfl, htb4, hE4⟩
  rw [Hno.out] at htb4 ⊢
  have HF := Lib.hid (And.intro (HTx.out.same htb4 hE4 rfl HTx.out.ok) (Ext.from HXB.out hE4 (fun j hj => by rw [hj]; exact HTx.out.hb)))
  clear htb4 hE4
  go_wp2_with fail
  refine (pieces_all HF.out.1.tb HF.out.1.ok (by omega)).mono ?_
  rintro e w6 ⟨v6, rfl, ho6, hX6⟩
  obtain ⟨q6, d6, rfl⟩ := own_slice ho6
  have hp6 : t.ps.length ≤ bef := by rw [Hbef.out]; exact Nat.le_refl _
  have HG := Lib.hid (And.intro (HF.out.1.below hX6) (HF.out.2.trans (hX6.mono HF.out.2.size)))
  clear ho6 hX6
  generalize t.ps.length = l6 at hp6 ⊢
  go_wp2_with fail
  apply Hm.out
  exact ⟨n, t, p, c, rfl, Lib.hid ⟨Hnl.out, HG.out.1.mono (by omega), HG.out.2⟩⟩

set_option maxHeartbeats 12800000 in
set_option maxRecDepth 1000000 in
theorem sw1b {w w3 : World} {b A n bef k da : Nat} {p qa : Option Addr} {c : Nat} {t : Tb} {what pos dn : Int} {x : List Int} {K : Act → World → Prop} {Q : Exit → Act → World → Prop} {x0 x1 x2 x3 x4 x7 x10 x11 x12 x13 x14 x15 x16 x17 x18 x19 x20 x21 x22 x23 x24 x25 x26 x27 x28 x29 x30 x31 x32 x33 x34 x35 x36 x37 x38 x39 x40 x41 x42 x43 x44 x45 x47 x48 x49 x50 x51 x52 x53 x54 x55 x56 x57 x58 x59 x60 x61 x62 x63 x64 x65 x66 x67 x68 x69 x70 x71 x72 x73 x74 x75 x76 x77 x78 x79 x80 x81 x82 x83 x84 x85 x86 x87 x88 x89 x90 x91 x92 x93 x94 x95 x96 x97 x98 x99 x100 x101 x102 x103 x104 x105 x106 x107 x108 x109 x110 x111 x112 x113 x114 x115 x116 x117 x118 x119 x120 x121 x122 x123 x124 x125 x126 x127 x128 x129 x130 x131 x132 x133 x134 x135 x136 x137 x138 x139 x140 x141 x142 x143 x144 x145 x146 x147 x148 x149 x150 x151 x152 x153 x154 x155 x156 x157 x158 x159 x160 x161 x162 x163 x164 x165 x166 x167 x168 x169 x170 x171 x172 x173 x174 x175 x176 x177 x178 x179 x180 x181 x182 x183 x184 x185 x186 x187 x188 x189 x190 x191 x192 x193 x194 x195 x196 x197 x198 x199 x200 x201 x202 x203 x204 x205 x206 x207 x208 x209 x210 x211 x212 x213 x214 : Value}
    (H : SwH w w3 b A n bef k da p qa c t what pos dn x) (hw : what = 1) (hp0 : ¬ pos < 0) (hd0 : dn < 0)
    (hm : ∀ (u4 u6 u10 u11 u47 u48 u49 u50 u51 u52 u53 u54 u55 u56 u57 u58 u59 u60 u61 u62 u63 u64 u65 u66 u67 u68 u69 u70 u71 u72 u73 u74 u75 u76 u77 u78 u79 u80 u81 u82 u83 u84 u85 u86 u87 u88 u89 u90 u91 u92 u93 u94 u95 u96 u97 u98 u99 u100 u101 u102 u103 u104 u105 u106 u107 u108 u109 u110 u111 u112 u113 u114 u115 u116 u117 u118 u119 u120 u121 u122 u123 u124 u125 u126 u127 u128 u129 u130 u131 u132 u133 u134 u135 u136 u137 u138 u139 u140 : Value) (w' : World), SwRel w b k u6 w' → K ⟨#[x0, x1, x2, x3, u4, .pointer (some ⟨b, 0, none⟩), u6, x7, .pointer (some ⟨A, 0, none⟩), .int .i64 (bef : Int), u10, u11, x12, x13, x14, x15, x16, x17, x18, x19, x20, x21, x22, x23, x24, x25, x26, x27, x28, x29, x30, x31, x32, x33, x34, x35, x36, x37, x38, x39, x40, x41, x42, x43, x44, x45, .int .i64 what, u47, u48, u49, u50, u51, u52, u53, u54, u55, u56, u57, u58, u59, u60, u61, u62, u63, u64, u65, u66, u67, u68, u69, u70, u71, u72, u73, u74, u75, u76, u77, u78, u79, u80, u81, u82, u83, u84, u85, u86, u87, u88, u89, u90, u91, u92, u93, u94, u95, u96, u97, u98, u99, u100, u101, u102, u103, u104, u105, u106, u107, u108, u109, u110, u111, u112, u113, u114, u115, u116, u117, u118, u119, u120, u121, u122, u123, u124, u125, u126, u127, u128, u129, u130, u131, u132, u133, u134, u135, u136, u137, u138, u139, u140, x141, x142, x143, x144, x145, x146, x147, x148, x149, x150, x151, x152, x153, x154, x155, x156, x157, x158, x159, x160, x161, x162, x163, x164, x165, x166, x167, x168, x169, x170, x171, x172, x173, x174, x175, x176, x177, x178, x179, x180, x181, x182, x183, x184, x185, x186, x187, x188, x189, x190, x191, x192, x193, x194, x195, x196, x197, x198, x199, x200, x201, x202, x203, x204, x205, x206, x207, x208, x209, x210, x211, x212, x213, x214], []⟩ w') :
    Code.wp Try.prog swText (Exit.then K Q) ⟨#[x0, x1, x2, x3, x4, .pointer (some ⟨b, 0, none⟩), .slice p n c, x7, .pointer (some ⟨A, 0, none⟩), .int .i64 (bef : Int), x10, x11, x12, x13, x14, x15, x16, x17, x18, x19, x20, x21, x22, x23, x24, x25, x26, x27, x28, x29, x30, x31, x32, x33, x34, x35, x36, x37, x38, x39, x40, x41, x42, x43, x44, x45, .int .i64 what, x47, x48, x49, x50, x51, x52, x53, x54, x55, x56, x57, x58, x59, x60, x61, x62, x63, x64, x65, x66, x67, x68, x69, x70, x71, x72, x73, x74, x75, x76, x77, x78, x79, x80, x81, x82, x83, x84, x85, x86, x87, x88, x89, x90, x91, x92, x93, x94, x95, x96, x97, x98, x99, x100, x101, x102, x103, x104, x105, x106, x107, x108, x109, x110, x111, x112, x113, x114, x115, x116, x117, x118, x119, x120, x121, x122, x123, x124, x125, x126, x127, x128, x129, x130, x131, x132, x133, x134, x135, x136, x137, x138, x139, x140, x141, x142, x143, x144, x145, x146, x147, x148, x149, x150, x151, x152, x153, x154, x155, x156, x157, x158, x159, x160, x161, x162, x163, x164, x165, x166, x167, x168, x169, x170, x171, x172, x173, x174, x175, x176, x177, x178, x179, x180, x181, x182, x183, x184, x185, x186, x187, x188, x189, x190, x191, x192, x193, x194, x195, x196, x197, x198, x199, x200, x201, x202, x203, x204, x205, x206, x207, x208, x209, x210, x211, x212, x213, x214], []⟩ w3 := by
  have HTx := Lib.hid H.HTx
  have HXB := Lib.hid H.HXB
  have HXq := Lib.hid H.HXq
  have HNx := Lib.hid H.HNx
  have HAB := Lib.hid H.HAB
  have HAne := Lib.hid H.HAne
  have Hnl := Lib.hid H.Hnl
  have Hbef := Lib.hid H.Hbef
  have Hint := Lib.hid H.Hint
  have hk6 := H.hk6
  have hx100 := H.hx100
  have hnl : n ≤ 300 + 100 * k := by rw [H.Hnl]; exact H.HTx.ok.n
  have hpl : bef ≤ 10000 := by have := H.HTx.ok.pcs; rw [H.Hbef]; omega
  have hb2 : IntKind.i64.wrap ((bef : Int) + 2) = ((bef + 2 : Nat) : Int) := by rw [IntKind.wrap_i64]; omega
  have hb1 : IntKind.i64.wrap ((bef : Int) + 1) = ((bef + 1 : Nat) : Int) := by rw [IntKind.wrap_i64]; omega
  obtain ⟨c0, c1, c2', c3', -⟩ := HAB.out.c4
  have Hm := Lib.hid hm
  clear H hm
  conv => arg 2; whnf
  subst hw
  have Hno := Lib.hid (show t.del pos dn = (30, t) from Tb.del_no (by unfold inText; exact decide_eq_false (fun h => by have := Hnl.out; omega)))
  go_wp2_with fail
  refine (del_all (pos := pos) (n := dn) HTx.out.tb (QT.nb _ _ _) HTx.out.ok (by omega) Hint.out.1 Hint.out.2).mono ?_
  rintro e w4 ⟨rfl, htb4, hE4⟩
  rw [Hno.out] at htb4 ⊢
  have HF := Lib.hid (And.intro (HTx.out.same htb4 hE4 rfl HTx.out.ok) (Ext.from HXB.out hE4 (fun j hj => by rw [hj]; exact HTx.out.hb)))
  clear htb4 hE4
  go_wp2_with fail
  refine (pieces_all HF.out.1.tb HF.out.1.ok (by omega)).mono ?_
  rintro e w6 ⟨v6, rfl, ho6, hX6⟩
  obtain ⟨q6, d6, rfl⟩ := own_slice ho6
  have hp6 : t.ps.length ≤ bef := by rw [Hbef.out]; exact Nat.le_refl _
  have HG := Lib.hid (And.intro (HF.out.1.below hX6) (HF.out.2.trans (hX6.mono HF.out.2.size)))
  clear ho6 hX6
  generalize t.ps.length = l6 at hp6 ⊢
  go_wp2_with fail
  apply Hm.out
  exact ⟨n, t, p, c, rfl, Lib.hid ⟨Hnl.out, HG.out.1.mono (by omega), HG.out.2⟩⟩

set_option maxHeartbeats 12800000 in
set_option maxRecDepth 1000000 in
theorem sw1c {w w3 : World} {b A n bef k da : Nat} {p qa : Option Addr} {c : Nat} {t : Tb} {what pos dn : Int} {x : List Int} {K : Act → World → Prop} {Q : Exit → Act → World → Prop} {x0 x1 x2 x3 x4 x7 x10 x11 x12 x13 x14 x15 x16 x17 x18 x19 x20 x21 x22 x23 x24 x25 x26 x27 x28 x29 x30 x31 x32 x33 x34 x35 x36 x37 x38 x39 x40 x41 x42 x43 x44 x45 x47 x48 x49 x50 x51 x52 x53 x54 x55 x56 x57 x58 x59 x60 x61 x62 x63 x64 x65 x66 x67 x68 x69 x70 x71 x72 x73 x74 x75 x76 x77 x78 x79 x80 x81 x82 x83 x84 x85 x86 x87 x88 x89 x90 x91 x92 x93 x94 x95 x96 x97 x98 x99 x100 x101 x102 x103 x104 x105 x106 x107 x108 x109 x110 x111 x112 x113 x114 x115 x116 x117 x118 x119 x120 x121 x122 x123 x124 x125 x126 x127 x128 x129 x130 x131 x132 x133 x134 x135 x136 x137 x138 x139 x140 x141 x142 x143 x144 x145 x146 x147 x148 x149 x150 x151 x152 x153 x154 x155 x156 x157 x158 x159 x160 x161 x162 x163 x164 x165 x166 x167 x168 x169 x170 x171 x172 x173 x174 x175 x176 x177 x178 x179 x180 x181 x182 x183 x184 x185 x186 x187 x188 x189 x190 x191 x192 x193 x194 x195 x196 x197 x198 x199 x200 x201 x202 x203 x204 x205 x206 x207 x208 x209 x210 x211 x212 x213 x214 : Value}
    (H : SwH w w3 b A n bef k da p qa c t what pos dn x) (hw : what = 1) (hp0 : ¬ pos < 0) (hd0 : ¬ dn < 0) (hpn : (n : Int) < pos)
    (hm : ∀ (u4 u6 u10 u11 u47 u48 u49 u50 u51 u52 u53 u54 u55 u56 u57 u58 u59 u60 u61 u62 u63 u64 u65 u66 u67 u68 u69 u70 u71 u72 u73 u74 u75 u76 u77 u78 u79 u80 u81 u82 u83 u84 u85 u86 u87 u88 u89 u90 u91 u92 u93 u94 u95 u96 u97 u98 u99 u100 u101 u102 u103 u104 u105 u106 u107 u108 u109 u110 u111 u112 u113 u114 u115 u116 u117 u118 u119 u120 u121 u122 u123 u124 u125 u126 u127 u128 u129 u130 u131 u132 u133 u134 u135 u136 u137 u138 u139 u140 : Value) (w' : World), SwRel w b k u6 w' → K ⟨#[x0, x1, x2, x3, u4, .pointer (some ⟨b, 0, none⟩), u6, x7, .pointer (some ⟨A, 0, none⟩), .int .i64 (bef : Int), u10, u11, x12, x13, x14, x15, x16, x17, x18, x19, x20, x21, x22, x23, x24, x25, x26, x27, x28, x29, x30, x31, x32, x33, x34, x35, x36, x37, x38, x39, x40, x41, x42, x43, x44, x45, .int .i64 what, u47, u48, u49, u50, u51, u52, u53, u54, u55, u56, u57, u58, u59, u60, u61, u62, u63, u64, u65, u66, u67, u68, u69, u70, u71, u72, u73, u74, u75, u76, u77, u78, u79, u80, u81, u82, u83, u84, u85, u86, u87, u88, u89, u90, u91, u92, u93, u94, u95, u96, u97, u98, u99, u100, u101, u102, u103, u104, u105, u106, u107, u108, u109, u110, u111, u112, u113, u114, u115, u116, u117, u118, u119, u120, u121, u122, u123, u124, u125, u126, u127, u128, u129, u130, u131, u132, u133, u134, u135, u136, u137, u138, u139, u140, x141, x142, x143, x144, x145, x146, x147, x148, x149, x150, x151, x152, x153, x154, x155, x156, x157, x158, x159, x160, x161, x162, x163, x164, x165, x166, x167, x168, x169, x170, x171, x172, x173, x174, x175, x176, x177, x178, x179, x180, x181, x182, x183, x184, x185, x186, x187, x188, x189, x190, x191, x192, x193, x194, x195, x196, x197, x198, x199, x200, x201, x202, x203, x204, x205, x206, x207, x208, x209, x210, x211, x212, x213, x214], []⟩ w') :
    Code.wp Try.prog swText (Exit.then K Q) ⟨#[x0, x1, x2, x3, x4, .pointer (some ⟨b, 0, none⟩), .slice p n c, x7, .pointer (some ⟨A, 0, none⟩), .int .i64 (bef : Int), x10, x11, x12, x13, x14, x15, x16, x17, x18, x19, x20, x21, x22, x23, x24, x25, x26, x27, x28, x29, x30, x31, x32, x33, x34, x35, x36, x37, x38, x39, x40, x41, x42, x43, x44, x45, .int .i64 what, x47, x48, x49, x50, x51, x52, x53, x54, x55, x56, x57, x58, x59, x60, x61, x62, x63, x64, x65, x66, x67, x68, x69, x70, x71, x72, x73, x74, x75, x76, x77, x78, x79, x80, x81, x82, x83, x84, x85, x86, x87, x88, x89, x90, x91, x92, x93, x94, x95, x96, x97, x98, x99, x100, x101, x102, x103, x104, x105, x106, x107, x108, x109, x110, x111, x112, x113, x114, x115, x116, x117, x118, x119, x120, x121, x122, x123, x124, x125, x126, x127, x128, x129, x130, x131, x132, x133, x134, x135, x136, x137, x138, x139, x140, x141, x142, x143, x144, x145, x146, x147, x148, x149, x150, x151, x152, x153, x154, x155, x156, x157, x158, x159, x160, x161, x162, x163, x164, x165, x166, x167, x168, x169, x170, x171, x172, x173, x174, x175, x176, x177, x178, x179, x180, x181, x182, x183, x184, x185, x186, x187, x188, x189, x190, x191, x192, x193, x194, x195, x196, x197, x198, x199, x200, x201, x202, x203, x204, x205, x206, x207, x208, x209, x210, x211, x212, x213, x214], []⟩ w3 := by
  have HTx := Lib.hid H.HTx
  have HXB := Lib.hid H.HXB
  have HXq := Lib.hid H.HXq
  have HNx := Lib.hid H.HNx
  have HAB := Lib.hid H.HAB
  have HAne := Lib.hid H.HAne
  have Hnl := Lib.hid H.Hnl
  have Hbef := Lib.hid H.Hbef
  have Hint := Lib.hid H.Hint
  have hk6 := H.hk6
  have hx100 := H.hx100
  have hnl : n ≤ 300 + 100 * k := by rw [H.Hnl]; exact H.HTx.ok.n
  have hpl : bef ≤ 10000 := by have := H.HTx.ok.pcs; rw [H.Hbef]; omega
  have hb2 : IntKind.i64.wrap ((bef : Int) + 2) = ((bef + 2 : Nat) : Int) := by rw [IntKind.wrap_i64]; omega
  have hb1 : IntKind.i64.wrap ((bef : Int) + 1) = ((bef + 1 : Nat) : Int) := by rw [IntKind.wrap_i64]; omega
  obtain ⟨c0, c1, c2', c3', -⟩ := HAB.out.c4
  have Hm := Lib.hid hm
  clear H hm
  conv => arg 2; whnf
  subst hw
  have Hno := Lib.hid (show t.del pos dn = (30, t) from Tb.del_no (by unfold inText; exact decide_eq_false (fun h => by have := Hnl.out; omega)))
  go_wp2_with fail
  refine (del_all (pos := pos) (n := dn) HTx.out.tb (QT.nb _ _ _) HTx.out.ok (by omega) Hint.out.1 Hint.out.2).mono ?_
  rintro e w4 ⟨rfl, htb4, hE4⟩
  rw [Hno.out] at htb4 ⊢
  have HF := Lib.hid (And.intro (HTx.out.same htb4 hE4 rfl HTx.out.ok) (Ext.from HXB.out hE4 (fun j hj => by rw [hj]; exact HTx.out.hb)))
  clear htb4 hE4
  go_wp2_with fail
  refine (pieces_all HF.out.1.tb HF.out.1.ok (by omega)).mono ?_
  rintro e w6 ⟨v6, rfl, ho6, hX6⟩
  obtain ⟨q6, d6, rfl⟩ := own_slice ho6
  have hp6 : t.ps.length ≤ bef := by rw [Hbef.out]; exact Nat.le_refl _
  have HG := Lib.hid (And.intro (HF.out.1.below hX6) (HF.out.2.trans (hX6.mono HF.out.2.size)))
  clear ho6 hX6
  generalize t.ps.length = l6 at hp6 ⊢
  go_wp2_with fail
  apply Hm.out
  exact ⟨n, t, p, c, rfl, Lib.hid ⟨Hnl.out, HG.out.1.mono (by omega), HG.out.2⟩⟩

set_option maxHeartbeats 12800000 in
set_option maxRecDepth 1000000 in
theorem sw1d {w w3 : World} {b A n bef k da : Nat} {p qa : Option Addr} {c : Nat} {t : Tb} {what pos dn : Int} {x : List Int} {K : Act → World → Prop} {Q : Exit → Act → World → Prop} {x0 x1 x2 x3 x4 x7 x10 x11 x12 x13 x14 x15 x16 x17 x18 x19 x20 x21 x22 x23 x24 x25 x26 x27 x28 x29 x30 x31 x32 x33 x34 x35 x36 x37 x38 x39 x40 x41 x42 x43 x44 x45 x47 x48 x49 x50 x51 x52 x53 x54 x55 x56 x57 x58 x59 x60 x61 x62 x63 x64 x65 x66 x67 x68 x69 x70 x71 x72 x73 x74 x75 x76 x77 x78 x79 x80 x81 x82 x83 x84 x85 x86 x87 x88 x89 x90 x91 x92 x93 x94 x95 x96 x97 x98 x99 x100 x101 x102 x103 x104 x105 x106 x107 x108 x109 x110 x111 x112 x113 x114 x115 x116 x117 x118 x119 x120 x121 x122 x123 x124 x125 x126 x127 x128 x129 x130 x131 x132 x133 x134 x135 x136 x137 x138 x139 x140 x141 x142 x143 x144 x145 x146 x147 x148 x149 x150 x151 x152 x153 x154 x155 x156 x157 x158 x159 x160 x161 x162 x163 x164 x165 x166 x167 x168 x169 x170 x171 x172 x173 x174 x175 x176 x177 x178 x179 x180 x181 x182 x183 x184 x185 x186 x187 x188 x189 x190 x191 x192 x193 x194 x195 x196 x197 x198 x199 x200 x201 x202 x203 x204 x205 x206 x207 x208 x209 x210 x211 x212 x213 x214 : Value}
    (H : SwH w w3 b A n bef k da p qa c t what pos dn x) (hw : what = 1) (hp0 : ¬ pos < 0) (hd0 : ¬ dn < 0) (hpn : ¬ (n : Int) < pos) (hdn : (n : Int) - pos < dn)
    (hm : ∀ (u4 u6 u10 u11 u47 u48 u49 u50 u51 u52 u53 u54 u55 u56 u57 u58 u59 u60 u61 u62 u63 u64 u65 u66 u67 u68 u69 u70 u71 u72 u73 u74 u75 u76 u77 u78 u79 u80 u81 u82 u83 u84 u85 u86 u87 u88 u89 u90 u91 u92 u93 u94 u95 u96 u97 u98 u99 u100 u101 u102 u103 u104 u105 u106 u107 u108 u109 u110 u111 u112 u113 u114 u115 u116 u117 u118 u119 u120 u121 u122 u123 u124 u125 u126 u127 u128 u129 u130 u131 u132 u133 u134 u135 u136 u137 u138 u139 u140 : Value) (w' : World), SwRel w b k u6 w' → K ⟨#[x0, x1, x2, x3, u4, .pointer (some ⟨b, 0, none⟩), u6, x7, .pointer (some ⟨A, 0, none⟩), .int .i64 (bef : Int), u10, u11, x12, x13, x14, x15, x16, x17, x18, x19, x20, x21, x22, x23, x24, x25, x26, x27, x28, x29, x30, x31, x32, x33, x34, x35, x36, x37, x38, x39, x40, x41, x42, x43, x44, x45, .int .i64 what, u47, u48, u49, u50, u51, u52, u53, u54, u55, u56, u57, u58, u59, u60, u61, u62, u63, u64, u65, u66, u67, u68, u69, u70, u71, u72, u73, u74, u75, u76, u77, u78, u79, u80, u81, u82, u83, u84, u85, u86, u87, u88, u89, u90, u91, u92, u93, u94, u95, u96, u97, u98, u99, u100, u101, u102, u103, u104, u105, u106, u107, u108, u109, u110, u111, u112, u113, u114, u115, u116, u117, u118, u119, u120, u121, u122, u123, u124, u125, u126, u127, u128, u129, u130, u131, u132, u133, u134, u135, u136, u137, u138, u139, u140, x141, x142, x143, x144, x145, x146, x147, x148, x149, x150, x151, x152, x153, x154, x155, x156, x157, x158, x159, x160, x161, x162, x163, x164, x165, x166, x167, x168, x169, x170, x171, x172, x173, x174, x175, x176, x177, x178, x179, x180, x181, x182, x183, x184, x185, x186, x187, x188, x189, x190, x191, x192, x193, x194, x195, x196, x197, x198, x199, x200, x201, x202, x203, x204, x205, x206, x207, x208, x209, x210, x211, x212, x213, x214], []⟩ w') :
    Code.wp Try.prog swText (Exit.then K Q) ⟨#[x0, x1, x2, x3, x4, .pointer (some ⟨b, 0, none⟩), .slice p n c, x7, .pointer (some ⟨A, 0, none⟩), .int .i64 (bef : Int), x10, x11, x12, x13, x14, x15, x16, x17, x18, x19, x20, x21, x22, x23, x24, x25, x26, x27, x28, x29, x30, x31, x32, x33, x34, x35, x36, x37, x38, x39, x40, x41, x42, x43, x44, x45, .int .i64 what, x47, x48, x49, x50, x51, x52, x53, x54, x55, x56, x57, x58, x59, x60, x61, x62, x63, x64, x65, x66, x67, x68, x69, x70, x71, x72, x73, x74, x75, x76, x77, x78, x79, x80, x81, x82, x83, x84, x85, x86, x87, x88, x89, x90, x91, x92, x93, x94, x95, x96, x97, x98, x99, x100, x101, x102, x103, x104, x105, x106, x107, x108, x109, x110, x111, x112, x113, x114, x115, x116, x117, x118, x119, x120, x121, x122, x123, x124, x125, x126, x127, x128, x129, x130, x131, x132, x133, x134, x135, x136, x137, x138, x139, x140, x141, x142, x143, x144, x145, x146, x147, x148, x149, x150, x151, x152, x153, x154, x155, x156, x157, x158, x159, x160, x161, x162, x163, x164, x165, x166, x167, x168, x169, x170, x171, x172, x173, x174, x175, x176, x177, x178, x179, x180, x181, x182, x183, x184, x185, x186, x187, x188, x189, x190, x191, x192, x193, x194, x195, x196, x197, x198, x199, x200, x201, x202, x203, x204, x205, x206, x207, x208, x209, x210, x211, x212, x213, x214], []⟩ w3 := by
  have HTx := Lib.hid H.HTx
  have HXB := Lib.hid H.HXB
  have HXq := Lib.hid H.HXq
  have HNx := Lib.hid H.HNx
  have HAB := Lib.hid H.HAB
  have HAne := Lib.hid H.HAne
  have Hnl := Lib.hid H.Hnl
  have Hbef := Lib.hid H.Hbef
  have Hint := Lib.hid H.Hint
  have hk6 := H.hk6
  have hx100 := H.hx100
  have hnl : n ≤ 300 + 100 * k := by rw [H.Hnl]; exact H.HTx.ok.n
  have hpl : bef ≤ 10000 := by have := H.HTx.ok.pcs; rw [H.Hbef]; omega
  have hb2 : IntKind.i64.wrap ((bef : Int) + 2) = ((bef + 2 : Nat) : Int) := by rw [IntKind.wrap_i64]; omega
  have hb1 : IntKind.i64.wrap ((bef : Int) + 1) = ((bef + 1 : Nat) : Int) := by rw [IntKind.wrap_i64]; omega
  obtain ⟨c0, c1, c2', c3', -⟩ := HAB.out.c4
  have Hm := Lib.hid hm
  clear H hm
  conv => arg 2; whnf
  subst hw
  have Hno := Lib.hid (show t.del pos dn = (30, t) from Tb.del_no (by unfold inText; exact decide_eq_false (fun h => by have := Hnl.out; omega)))
  go_wp2_with fail
  refine (del_all (pos := pos) (n := dn) HTx.out.tb (QT.nb _ _ _) HTx.out.ok (by omega) Hint.out.1 Hint.out.2).mono ?_
  rintro e w4 ⟨rfl, htb4, hE4⟩
  rw [Hno.out] at htb4 ⊢
  have HF := Lib.hid (And.intro (HTx.out.same htb4 hE4 rfl HTx.out.ok) (Ext.from HXB.out hE4 (fun j hj => by rw [hj]; exact HTx.out.hb)))
  clear htb4 hE4
  go_wp2_with fail
  refine (pieces_all HF.out.1.tb HF.out.1.ok (by omega)).mono ?_
  rintro e w6 ⟨v6, rfl, ho6, hX6⟩
  obtain ⟨q6, d6, rfl⟩ := own_slice ho6
  have hp6 : t.ps.length ≤ bef := by rw [Hbef.out]; exact Nat.le_refl _
  have HG := Lib.hid (And.intro (HF.out.1.below hX6) (HF.out.2.trans (hX6.mono HF.out.2.size)))
  clear ho6 hX6
  generalize t.ps.length = l6 at hp6 ⊢
  go_wp2_with fail
  apply Hm.out
  exact ⟨n, t, p, c, rfl, Lib.hid ⟨Hnl.out, HG.out.1.mono (by omega), HG.out.2⟩⟩

set_option maxHeartbeats 12800000 in
set_option maxRecDepth 1000000 in
theorem sw3 {w w3 : World} {b A n bef k da : Nat} {p qa : Option Addr} {c : Nat} {t : Tb} {what pos dn : Int} {x : List Int} {K : Act → World → Prop} {Q : Exit → Act → World → Prop} {x0 x1 x2 x3 x4 x7 x10 x11 x12 x13 x14 x15 x16 x17 x18 x19 x20 x21 x22 x23 x24 x25 x26 x27 x28 x29 x30 x31 x32 x33 x34 x35 x36 x37 x38 x39 x40 x41 x42 x43 x44 x45 x47 x48 x49 x50 x51 x52 x53 x54 x55 x56 x57 x58 x59 x60 x61 x62 x63 x64 x65 x66 x67 x68 x69 x70 x71 x72 x73 x74 x75 x76 x77 x78 x79 x80 x81 x82 x83 x84 x85 x86 x87 x88 x89 x90 x91 x92 x93 x94 x95 x96 x97 x98 x99 x100 x101 x102 x103 x104 x105 x106 x107 x108 x109 x110 x111 x112 x113 x114 x115 x116 x117 x118 x119 x120 x121 x122 x123 x124 x125 x126 x127 x128 x129 x130 x131 x132 x133 x134 x135 x136 x137 x138 x139 x140 x141 x142 x143 x144 x145 x146 x147 x148 x149 x150 x151 x152 x153 x154 x155 x156 x157 x158 x159 x160 x161 x162 x163 x164 x165 x166 x167 x168 x169 x170 x171 x172 x173 x174 x175 x176 x177 x178 x179 x180 x181 x182 x183 x184 x185 x186 x187 x188 x189 x190 x191 x192 x193 x194 x195 x196 x197 x198 x199 x200 x201 x202 x203 x204 x205 x206 x207 x208 x209 x210 x211 x212 x213 x214 : Value}
    (H : SwH w w3 b A n bef k da p qa c t what pos dn x) (hw : what = 3)
    (hm : ∀ (u4 u6 u10 u11 u47 u48 u49 u50 u51 u52 u53 u54 u55 u56 u57 u58 u59 u60 u61 u62 u63 u64 u65 u66 u67 u68 u69 u70 u71 u72 u73 u74 u75 u76 u77 u78 u79 u80 u81 u82 u83 u84 u85 u86 u87 u88 u89 u90 u91 u92 u93 u94 u95 u96 u97 u98 u99 u100 u101 u102 u103 u104 u105 u106 u107 u108 u109 u110 u111 u112 u113 u114 u115 u116 u117 u118 u119 u120 u121 u122 u123 u124 u125 u126 u127 u128 u129 u130 u131 u132 u133 u134 u135 u136 u137 u138 u139 u140 : Value) (w' : World), SwRel w b k u6 w' → K ⟨#[x0, x1, x2, x3, u4, .pointer (some ⟨b, 0, none⟩), u6, x7, .pointer (some ⟨A, 0, none⟩), .int .i64 (bef : Int), u10, u11, x12, x13, x14, x15, x16, x17, x18, x19, x20, x21, x22, x23, x24, x25, x26, x27, x28, x29, x30, x31, x32, x33, x34, x35, x36, x37, x38, x39, x40, x41, x42, x43, x44, x45, .int .i64 what, u47, u48, u49, u50, u51, u52, u53, u54, u55, u56, u57, u58, u59, u60, u61, u62, u63, u64, u65, u66, u67, u68, u69, u70, u71, u72, u73, u74, u75, u76, u77, u78, u79, u80, u81, u82, u83, u84, u85, u86, u87, u88, u89, u90, u91, u92, u93, u94, u95, u96, u97, u98, u99, u100, u101, u102, u103, u104, u105, u106, u107, u108, u109, u110, u111, u112, u113, u114, u115, u116, u117, u118, u119, u120, u121, u122, u123, u124, u125, u126, u127, u128, u129, u130, u131, u132, u133, u134, u135, u136, u137, u138, u139, u140, x141, x142, x143, x144, x145, x146, x147, x148, x149, x150, x151, x152, x153, x154, x155, x156, x157, x158, x159, x160, x161, x162, x163, x164, x165, x166, x167, x168, x169, x170, x171, x172, x173, x174, x175, x176, x177, x178, x179, x180, x181, x182, x183, x184, x185, x186, x187, x188, x189, x190, x191, x192, x193, x194, x195, x196, x197, x198, x199, x200, x201, x202, x203, x204, x205, x206, x207, x208, x209, x210, x211, x212, x213, x214], []⟩ w') :
    Code.wp Try.prog swText (Exit.then K Q) ⟨#[x0, x1, x2, x3, x4, .pointer (some ⟨b, 0, none⟩), .slice p n c, x7, .pointer (some ⟨A, 0, none⟩), .int .i64 (bef : Int), x10, x11, x12, x13, x14, x15, x16, x17, x18, x19, x20, x21, x22, x23, x24, x25, x26, x27, x28, x29, x30, x31, x32, x33, x34, x35, x36, x37, x38, x39, x40, x41, x42, x43, x44, x45, .int .i64 what, x47, x48, x49, x50, x51, x52, x53, x54, x55, x56, x57, x58, x59, x60, x61, x62, x63, x64, x65, x66, x67, x68, x69, x70, x71, x72, x73, x74, x75, x76, x77, x78, x79, x80, x81, x82, x83, x84, x85, x86, x87, x88, x89, x90, x91, x92, x93, x94, x95, x96, x97, x98, x99, x100, x101, x102, x103, x104, x105, x106, x107, x108, x109, x110, x111, x112, x113, x114, x115, x116, x117, x118, x119, x120, x121, x122, x123, x124, x125, x126, x127, x128, x129, x130, x131, x132, x133, x134, x135, x136, x137, x138, x139, x140, x141, x142, x143, x144, x145, x146, x147, x148, x149, x150, x151, x152, x153, x154, x155, x156, x157, x158, x159, x160, x161, x162, x163, x164, x165, x166, x167, x168, x169, x170, x171, x172, x173, x174, x175, x176, x177, x178, x179, x180, x181, x182, x183, x184, x185, x186, x187, x188, x189, x190, x191, x192, x193, x194, x195, x196, x197, x198, x199, x200, x201, x202, x203, x204, x205, x206, x207, x208, x209, x210, x211, x212, x213, x214], []⟩ w3 := by
  have HTx := Lib.hid H.HTx
  have HXB := Lib.hid H.HXB
  have HXq := Lib.hid H.HXq
  have HNx := Lib.hid H.HNx
  have HAB := Lib.hid H.HAB
  have HAne := Lib.hid H.HAne
  have Hnl := Lib.hid H.Hnl
  have Hbef := Lib.hid H.Hbef
  have Hint := Lib.hid H.Hint
  have hk6 := H.hk6
  have hx100 := H.hx100
  have hnl : n ≤ 300 + 100 * k := by rw [H.Hnl]; exact H.HTx.ok.n
  have hpl : bef ≤ 10000 := by have := H.HTx.ok.pcs; rw [H.Hbef]; omega
  have hb2 : IntKind.i64.wrap ((bef : Int) + 2) = ((bef + 2 : Nat) : Int) := by rw [IntKind.wrap_i64]; omega
  have hb1 : IntKind.i64.wrap ((bef : Int) + 1) = ((bef + 1 : Nat) : Int) := by rw [IntKind.wrap_i64]; omega
  obtain ⟨c0, c1, c2', c3', -⟩ := HAB.out.c4
  have Hm := Lib.hid hm
  clear H hm
  conv => arg 2; whnf
  subst hw
  go_wp2_with fail
  refine (flat_all HTx.out.tb HTx.out.ok (by omega)).mono ?_
  rintro e w4 ⟨⟨vv, rfl⟩, htb4, hE4⟩
  have HF := Lib.hid (And.intro (HTx.out.same (htb4.weak fun j hj _ => .inr hj) hE4 Tb.flat_text (Tb.flat_ok HTx.out.ok)) (Ext.from HXB.out hE4 (fun j hj => by rw [hj]; exact HTx.out.hb)))
  have Hlf := Lib.hid (show n = t.flat.long from by rw [Hnl.out, ← HTx.out.ok.text_len]; rfl)
  clear htb4 hE4
  go_wp2_with fail
  refine (pieces_all HF.out.1.tb HF.out.1.ok (by omega)).mono ?_
  rintro e w6 ⟨v6, rfl, ho6, hX6⟩
  obtain ⟨q6, d6, rfl⟩ := own_slice ho6
  have hp6 : t.flat.ps.length ≤ 1 := Tb.flat_pcs
  have HG := Lib.hid (And.intro (HF.out.1.below hX6) (HF.out.2.trans (hX6.mono HF.out.2.size)))
  clear ho6 hX6
  generalize t.flat.ps.length = l6 at hp6 ⊢
  go_wp2_with fail
  apply Hm.out
  exact ⟨n, t.flat, p, c, rfl, Lib.hid ⟨Hlf.out, HG.out.1.mono (by omega), HG.out.2⟩⟩

set_option maxHeartbeats 12800000 in
set_option maxRecDepth 1000000 in
theorem swn {w w3 : World} {b A n bef k da : Nat} {p qa : Option Addr} {c : Nat} {t : Tb} {what pos dn : Int} {x : List Int} {K : Act → World → Prop} {Q : Exit → Act → World → Prop} {x0 x1 x2 x3 x4 x7 x10 x11 x12 x13 x14 x15 x16 x17 x18 x19 x20 x21 x22 x23 x24 x25 x26 x27 x28 x29 x30 x31 x32 x33 x34 x35 x36 x37 x38 x39 x40 x41 x42 x43 x44 x45 x47 x48 x49 x50 x51 x52 x53 x54 x55 x56 x57 x58 x59 x60 x61 x62 x63 x64 x65 x66 x67 x68 x69 x70 x71 x72 x73 x74 x75 x76 x77 x78 x79 x80 x81 x82 x83 x84 x85 x86 x87 x88 x89 x90 x91 x92 x93 x94 x95 x96 x97 x98 x99 x100 x101 x102 x103 x104 x105 x106 x107 x108 x109 x110 x111 x112 x113 x114 x115 x116 x117 x118 x119 x120 x121 x122 x123 x124 x125 x126 x127 x128 x129 x130 x131 x132 x133 x134 x135 x136 x137 x138 x139 x140 x141 x142 x143 x144 x145 x146 x147 x148 x149 x150 x151 x152 x153 x154 x155 x156 x157 x158 x159 x160 x161 x162 x163 x164 x165 x166 x167 x168 x169 x170 x171 x172 x173 x174 x175 x176 x177 x178 x179 x180 x181 x182 x183 x184 x185 x186 x187 x188 x189 x190 x191 x192 x193 x194 x195 x196 x197 x198 x199 x200 x201 x202 x203 x204 x205 x206 x207 x208 x209 x210 x211 x212 x213 x214 : Value}
    (H : SwH w w3 b A n bef k da p qa c t what pos dn x) (hb0 : (what == (0 : Int)) = false) (hb1' : (what == (1 : Int)) = false) (hb3' : (what == (3 : Int)) = false)
    (hm : ∀ (u4 u6 u10 u11 u47 u48 u49 u50 u51 u52 u53 u54 u55 u56 u57 u58 u59 u60 u61 u62 u63 u64 u65 u66 u67 u68 u69 u70 u71 u72 u73 u74 u75 u76 u77 u78 u79 u80 u81 u82 u83 u84 u85 u86 u87 u88 u89 u90 u91 u92 u93 u94 u95 u96 u97 u98 u99 u100 u101 u102 u103 u104 u105 u106 u107 u108 u109 u110 u111 u112 u113 u114 u115 u116 u117 u118 u119 u120 u121 u122 u123 u124 u125 u126 u127 u128 u129 u130 u131 u132 u133 u134 u135 u136 u137 u138 u139 u140 : Value) (w' : World), SwRel w b k u6 w' → K ⟨#[x0, x1, x2, x3, u4, .pointer (some ⟨b, 0, none⟩), u6, x7, .pointer (some ⟨A, 0, none⟩), .int .i64 (bef : Int), u10, u11, x12, x13, x14, x15, x16, x17, x18, x19, x20, x21, x22, x23, x24, x25, x26, x27, x28, x29, x30, x31, x32, x33, x34, x35, x36, x37, x38, x39, x40, x41, x42, x43, x44, x45, .int .i64 what, u47, u48, u49, u50, u51, u52, u53, u54, u55, u56, u57, u58, u59, u60, u61, u62, u63, u64, u65, u66, u67, u68, u69, u70, u71, u72, u73, u74, u75, u76, u77, u78, u79, u80, u81, u82, u83, u84, u85, u86, u87, u88, u89, u90, u91, u92, u93, u94, u95, u96, u97, u98, u99, u100, u101, u102, u103, u104, u105, u106, u107, u108, u109, u110, u111, u112, u113, u114, u115, u116, u117, u118, u119, u120, u121, u122, u123, u124, u125, u126, u127, u128, u129, u130, u131, u132, u133, u134, u135, u136, u137, u138, u139, u140, x141, x142, x143, x144, x145, x146, x147, x148, x149, x150, x151, x152, x153, x154, x155, x156, x157, x158, x159, x160, x161, x162, x163, x164, x165, x166, x167, x168, x169, x170, x171, x172, x173, x174, x175, x176, x177, x178, x179, x180, x181, x182, x183, x184, x185, x186, x187, x188, x189, x190, x191, x192, x193, x194, x195, x196, x197, x198, x199, x200, x201, x202, x203, x204, x205, x206, x207, x208, x209, x210, x211, x212, x213, x214], []⟩ w') :
    Code.wp Try.prog swText (Exit.then K Q) ⟨#[x0, x1, x2, x3, x4, .pointer (some ⟨b, 0, none⟩), .slice p n c, x7, .pointer (some ⟨A, 0, none⟩), .int .i64 (bef : Int), x10, x11, x12, x13, x14, x15, x16, x17, x18, x19, x20, x21, x22, x23, x24, x25, x26, x27, x28, x29, x30, x31, x32, x33, x34, x35, x36, x37, x38, x39, x40, x41, x42, x43, x44, x45, .int .i64 what, x47, x48, x49, x50, x51, x52, x53, x54, x55, x56, x57, x58, x59, x60, x61, x62, x63, x64, x65, x66, x67, x68, x69, x70, x71, x72, x73, x74, x75, x76, x77, x78, x79, x80, x81, x82, x83, x84, x85, x86, x87, x88, x89, x90, x91, x92, x93, x94, x95, x96, x97, x98, x99, x100, x101, x102, x103, x104, x105, x106, x107, x108, x109, x110, x111, x112, x113, x114, x115, x116, x117, x118, x119, x120, x121, x122, x123, x124, x125, x126, x127, x128, x129, x130, x131, x132, x133, x134, x135, x136, x137, x138, x139, x140, x141, x142, x143, x144, x145, x146, x147, x148, x149, x150, x151, x152, x153, x154, x155, x156, x157, x158, x159, x160, x161, x162, x163, x164, x165, x166, x167, x168, x169, x170, x171, x172, x173, x174, x175, x176, x177, x178, x179, x180, x181, x182, x183, x184, x185, x186, x187, x188, x189, x190, x191, x192, x193, x194, x195, x196, x197, x198, x199, x200, x201, x202, x203, x204, x205, x206, x207, x208, x209, x210, x211, x212, x213, x214], []⟩ w3 := by
  have HTx := Lib.hid H.HTx
  have HXB := Lib.hid H.HXB
  have HXq := Lib.hid H.HXq
  have HNx := Lib.hid H.HNx
  have HAB := Lib.hid H.HAB
  have HAne := Lib.hid H.HAne
  have Hnl := Lib.hid H.Hnl
  have Hbef := Lib.hid H.Hbef
  have Hint := Lib.hid H.Hint
  have hk6 := H.hk6
  have hx100 := H.hx100
  have hnl : n ≤ 300 + 100 * k := by rw [H.Hnl]; exact H.HTx.ok.n
  have hpl : bef ≤ 10000 := by have := H.HTx.ok.pcs; rw [H.Hbef]; omega
  have hb2 : IntKind.i64.wrap ((bef : Int) + 2) = ((bef + 2 : Nat) : Int) := by rw [IntKind.wrap_i64]; omega
  have hb1 : IntKind.i64.wrap ((bef : Int) + 1) = ((bef + 1 : Nat) : Int) := by rw [IntKind.wrap_i64]; omega
  obtain ⟨c0, c1, c2', c3', -⟩ := HAB.out.c4
  have Hm := Lib.hid hm
  clear H hm
  conv => arg 2; whnf
  go_wp2_with fail
  apply Hm.out
  exact ⟨n, t, p, c, rfl, Lib.hid ⟨Hnl.out, HTx.out.mono (by omega), HXB.out⟩⟩

theorem sw_all {w w3 : World} {b A n bef k da : Nat} {p qa : Option Addr} {c : Nat} {t : Tb} {what pos dn : Int} {x : List Int} {K : Act → World → Prop} {Q : Exit → Act → World → Prop} {x0 x1 x2 x3 x4 x7 x10 x11 x12 x13 x14 x15 x16 x17 x18 x19 x20 x21 x22 x23 x24 x25 x26 x27 x28 x29 x30 x31 x32 x33 x34 x35 x36 x37 x38 x39 x40 x41 x42 x43 x44 x45 x47 x48 x49 x50 x51 x52 x53 x54 x55 x56 x57 x58 x59 x60 x61 x62 x63 x64 x65 x66 x67 x68 x69 x70 x71 x72 x73 x74 x75 x76 x77 x78 x79 x80 x81 x82 x83 x84 x85 x86 x87 x88 x89 x90 x91 x92 x93 x94 x95 x96 x97 x98 x99 x100 x101 x102 x103 x104 x105 x106 x107 x108 x109 x110 x111 x112 x113 x114 x115 x116 x117 x118 x119 x120 x121 x122 x123 x124 x125 x126 x127 x128 x129 x130 x131 x132 x133 x134 x135 x136 x137 x138 x139 x140 x141 x142 x143 x144 x145 x146 x147 x148 x149 x150 x151 x152 x153 x154 x155 x156 x157 x158 x159 x160 x161 x162 x163 x164 x165 x166 x167 x168 x169 x170 x171 x172 x173 x174 x175 x176 x177 x178 x179 x180 x181 x182 x183 x184 x185 x186 x187 x188 x189 x190 x191 x192 x193 x194 x195 x196 x197 x198 x199 x200 x201 x202 x203 x204 x205 x206 x207 x208 x209 x210 x211 x212 x213 x214 : Value}
    (H : SwH w w3 b A n bef k da p qa c t what pos dn x)
    (hm : ∀ (u4 u6 u10 u11 u47 u48 u49 u50 u51 u52 u53 u54 u55 u56 u57 u58 u59 u60 u61 u62 u63 u64 u65 u66 u67 u68 u69 u70 u71 u72 u73 u74 u75 u76 u77 u78 u79 u80 u81 u82 u83 u84 u85 u86 u87 u88 u89 u90 u91 u92 u93 u94 u95 u96 u97 u98 u99 u100 u101 u102 u103 u104 u105 u106 u107 u108 u109 u110 u111 u112 u113 u114 u115 u116 u117 u118 u119 u120 u121 u122 u123 u124 u125 u126 u127 u128 u129 u130 u131 u132 u133 u134 u135 u136 u137 u138 u139 u140 : Value) (w' : World), SwRel w b k u6 w' → K ⟨#[x0, x1, x2, x3, u4, .pointer (some ⟨b, 0, none⟩), u6, x7, .pointer (some ⟨A, 0, none⟩), .int .i64 (bef : Int), u10, u11, x12, x13, x14, x15, x16, x17, x18, x19, x20, x21, x22, x23, x24, x25, x26, x27, x28, x29, x30, x31, x32, x33, x34, x35, x36, x37, x38, x39, x40, x41, x42, x43, x44, x45, .int .i64 what, u47, u48, u49, u50, u51, u52, u53, u54, u55, u56, u57, u58, u59, u60, u61, u62, u63, u64, u65, u66, u67, u68, u69, u70, u71, u72, u73, u74, u75, u76, u77, u78, u79, u80, u81, u82, u83, u84, u85, u86, u87, u88, u89, u90, u91, u92, u93, u94, u95, u96, u97, u98, u99, u100, u101, u102, u103, u104, u105, u106, u107, u108, u109, u110, u111, u112, u113, u114, u115, u116, u117, u118, u119, u120, u121, u122, u123, u124, u125, u126, u127, u128, u129, u130, u131, u132, u133, u134, u135, u136, u137, u138, u139, u140, x141, x142, x143, x144, x145, x146, x147, x148, x149, x150, x151, x152, x153, x154, x155, x156, x157, x158, x159, x160, x161, x162, x163, x164, x165, x166, x167, x168, x169, x170, x171, x172, x173, x174, x175, x176, x177, x178, x179, x180, x181, x182, x183, x184, x185, x186, x187, x188, x189, x190, x191, x192, x193, x194, x195, x196, x197, x198, x199, x200, x201, x202, x203, x204, x205, x206, x207, x208, x209, x210, x211, x212, x213, x214], []⟩ w') :
    Code.wp Try.prog swText (Exit.then K Q) ⟨#[x0, x1, x2, x3, x4, .pointer (some ⟨b, 0, none⟩), .slice p n c, x7, .pointer (some ⟨A, 0, none⟩), .int .i64 (bef : Int), x10, x11, x12, x13, x14, x15, x16, x17, x18, x19, x20, x21, x22, x23, x24, x25, x26, x27, x28, x29, x30, x31, x32, x33, x34, x35, x36, x37, x38, x39, x40, x41, x42, x43, x44, x45, .int .i64 what, x47, x48, x49, x50, x51, x52, x53, x54, x55, x56, x57, x58, x59, x60, x61, x62, x63, x64, x65, x66, x67, x68, x69, x70, x71, x72, x73, x74, x75, x76, x77, x78, x79, x80, x81, x82, x83, x84, x85, x86, x87, x88, x89, x90, x91, x92, x93, x94, x95, x96, x97, x98, x99, x100, x101, x102, x103, x104, x105, x106, x107, x108, x109, x110, x111, x112, x113, x114, x115, x116, x117, x118, x119, x120, x121, x122, x123, x124, x125, x126, x127, x128, x129, x130, x131, x132, x133, x134, x135, x136, x137, x138, x139, x140, x141, x142, x143, x144, x145, x146, x147, x148, x149, x150, x151, x152, x153, x154, x155, x156, x157, x158, x159, x160, x161, x162, x163, x164, x165, x166, x167, x168, x169, x170, x171, x172, x173, x174, x175, x176, x177, x178, x179, x180, x181, x182, x183, x184, x185, x186, x187, x188, x189, x190, x191, x192, x193, x194, x195, x196, x197, x198, x199, x200, x201, x202, x203, x204, x205, x206, x207, x208, x209, x210, x211, x212, x213, x214], []⟩ w3 := by
  by_cases h0 : what = 0
  · by_cases hin : 0 ≤ pos ∧ pos ≤ (n : Int)
    · exact sw0t H h0 hin hm
    · by_cases hp : pos < 0
      · exact sw0a H h0 hp hm
      · exact sw0b H h0 hp (by omega) hm
  · by_cases h1 : what = 1
    · cases hit : inText n pos dn with
      | true => exact sw1t H h1 hit hm
      | false =>
        have hit2 : ¬ (0 ≤ pos ∧ 0 ≤ dn ∧ pos ≤ (n : Int) ∧ dn ≤ (n : Int) - pos) := by
          unfold inText at hit
          exact of_decide_eq_false hit
        by_cases hp : pos < 0
        · exact sw1a H h1 hp hm
        · by_cases hd : dn < 0
          · exact sw1b H h1 hp hd hm
          · by_cases hpn : (n : Int) < pos
            · exact sw1c H h1 hp hd hpn hm
            · exact sw1d H h1 hp hd hpn (by omega) hm
    · by_cases h3 : what = 3
      · exact sw3 H h3 hm
      · exact swn H (by simpa using h0) (by simpa using h1) (by simpa using h3) hm
end Go.Proofs.Ytelaiafpfaohfaa
