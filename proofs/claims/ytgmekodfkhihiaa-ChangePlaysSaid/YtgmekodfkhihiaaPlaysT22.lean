/-
  ChangePlays' switch: what each of its cases leaves. (Printed by wip/gen_plays22t.py.)
-/
import Derived.Test.YtgmekodfkhihiaaPlaysV22
namespace Go.Proofs.Ytgmekodfkhihiaa
open Go.RowKit Go.Maps
set_option linter.unusedSimpArgs false
set_option linter.unusedVariables false

noncomputable def swText : Code := ((Try.f5.body.bind (blockOf 2)).getD .skip)
/-- What the switch is met with. -/
structure SwH (w V : World) (cb rb A : Nat) (n me v vn what ahead frm pl pb pc : Int) (es : List Ent) (qa : Option Addr) (da : Nat) : Prop where
  HG : Gd w.heap.size V (fun j => j < w.heap.size) (fun j => j = A) cb rb n me v
  HS : Sd w V (fun j => j < w.heap.size) (fun j => j = A) A what ahead frm ⟨pl, pb, pc, es⟩ qa da
  Hk : NumOk n me
  Hvn : 0 ≤ vn ∧ vn < 18446744073709551616
  Hfit : Fits es
  h66 : es.length ≤ 66
  HP : 0 ≤ pb ∧ 0 ≤ pc
/-- What the switch leaves. -/
def SwRel (w : World) (rb A : Nat) (n me what ahead frm pl pb pc : Int) (es : List Ent) (qa : Option Addr) (da : Nat) (xv rv : Value) (wx : World) : Prop := ∃ (cb : Nat) (v : Int), xv = .pointer (some ⟨cb, 0, none⟩) ∧ rv = .bool true ∧ Hid (Gd w.heap.size wx (fun j => j < w.heap.size) (fun j => j = A) cb rb n me v ∧ Sd w wx (fun j => j < w.heap.size) (fun j => j = A) A what ahead frm ⟨pl, pb, pc, es⟩ qa da)

set_option maxHeartbeats 12800000 in
set_option maxRecDepth 1000000 in
theorem sw0 {w V : World} {cb rb A : Nat} {n me v vn what ahead frm pl pb pc : Int} {es : List Ent} {qa : Option Addr} {da : Nat} {K : Act → World → Prop} {Q : Exit → Act → World → Prop} {x0 x1 x2 x3 x4 x5 x6 x8 x10 x11 x15 x16 x17 x18 x19 x20 x21 x22 x23 x24 x25 x26 x27 x28 x29 x30 x31 x32 x33 x34 x35 x36 x37 x38 x39 x40 x41 x42 x43 x44 x45 x46 x47 x48 x49 x50 x51 x52 x53 x54 x55 x56 x57 x58 x59 x60 x61 x62 x63 x64 x65 x66 x67 x68 x69 x70 x71 x72 x73 x74 x75 x76 x77 x78 x79 x80 x81 x82 x83 x84 x85 x86 x87 x88 x89 x90 x92 x93 x94 x95 x96 x97 x98 x99 x100 x101 x102 x103 x104 x105 x106 x107 x108 x109 x110 x111 x112 x113 x114 x115 x116 x117 x118 x119 x120 x121 x122 x123 x124 x125 x126 x127 x128 x129 x130 x131 x132 x133 x134 x135 x136 x137 x138 x139 x140 x141 x142 x143 x144 x145 x146 x147 x148 x149 x150 x151 x152 x153 x154 x155 x156 x157 x158 x159 x160 x161 x162 x163 x164 x165 x166 x167 x168 x169 x170 x171 x172 x173 x174 x175 x176 x177 x178 x179 x180 x181 x182 x183 x184 x185 x186 x187 x188 x189 x190 x191 x192 x193 x194 x195 x196 x197 x198 x199 x200 x201 x202 x203 x204 x205 x206 x207 x208 x209 x210 x211 x212 x213 x214 x215 x216 x217 x218 x219 x220 x221 x222 x223 x224 x225 x226 x227 x228 x229 x230 x231 x232 x233 x234 x235 x236 x237 x238 x239 x240 x241 x242 x243 x244 x245 x246 x247 x248 x249 x250 x251 x252 x253 x254 x255 x256 x257 x258 x259 x260 x261 x262 x263 x264 x265 x266 x267 x268 x269 x270 x271 x272 : Value}
    (H : SwH w V cb rb A n me v vn what ahead frm pl pb pc es qa da) (h0 : what = 0)
    (hm : ∀ (u7 u14 u15 u16 u17 u18 u19 u20 u21 u22 u23 u24 u25 u92 u93 u94 u95 u96 u97 u98 u99 u100 u101 u102 u103 u104 u105 u106 u107 u108 u109 u110 u111 u112 u113 u114 u115 u116 u117 u118 u119 u120 u121 u122 u123 u124 u125 u126 u127 u128 u129 u130 u131 u132 u133 u134 u135 u136 u137 u138 u139 u140 u141 u142 u143 u144 u145 u146 u147 u148 u149 u150 u151 u152 u153 u154 u155 u156 u157 u158 u159 u160 u161 u162 u163 u164 u165 u166 u167 u168 u169 u170 u171 u172 u173 u174 u175 u176 u177 u178 u179 u180 u181 u182 u183 u184 u185 u186 u187 u188 u189 u190 u191 u192 u193 u194 u195 u196 u197 u198 u199 u200 u201 u202 u203 u204 u205 u206 u207 u208 u209 u210 u211 u212 : Value) (w' : World), SwRel w rb A n me what ahead frm pl pb pc es qa da u7 u14 w' → K ⟨#[x0, x1, x2, x3, x4, x5, x6, u7, x8, .pointer (some ⟨rb, 0, none⟩), x10, x11, .pointer (some ⟨A, 0, none⟩), .int .u64 vn, u14, u15, u16, u17, u18, u19, u20, u21, u22, u23, u24, u25, x26, x27, x28, x29, x30, x31, x32, x33, x34, x35, x36, x37, x38, x39, x40, x41, x42, x43, x44, x45, x46, x47, x48, x49, x50, x51, x52, x53, x54, x55, x56, x57, x58, x59, x60, x61, x62, x63, x64, x65, x66, x67, x68, x69, x70, x71, x72, x73, x74, x75, x76, x77, x78, x79, x80, x81, x82, x83, x84, x85, x86, x87, x88, x89, x90, .int .i64 what, u92, u93, u94, u95, u96, u97, u98, u99, u100, u101, u102, u103, u104, u105, u106, u107, u108, u109, u110, u111, u112, u113, u114, u115, u116, u117, u118, u119, u120, u121, u122, u123, u124, u125, u126, u127, u128, u129, u130, u131, u132, u133, u134, u135, u136, u137, u138, u139, u140, u141, u142, u143, u144, u145, u146, u147, u148, u149, u150, u151, u152, u153, u154, u155, u156, u157, u158, u159, u160, u161, u162, u163, u164, u165, u166, u167, u168, u169, u170, u171, u172, u173, u174, u175, u176, u177, u178, u179, u180, u181, u182, u183, u184, u185, u186, u187, u188, u189, u190, u191, u192, u193, u194, u195, u196, u197, u198, u199, u200, u201, u202, u203, u204, u205, u206, u207, u208, u209, u210, u211, u212, x213, x214, x215, x216, x217, x218, x219, x220, x221, x222, x223, x224, x225, x226, x227, x228, x229, x230, x231, x232, x233, x234, x235, x236, x237, x238, x239, x240, x241, x242, x243, x244, x245, x246, x247, x248, x249, x250, x251, x252, x253, x254, x255, x256, x257, x258, x259, x260, x261, x262, x263, x264, x265, x266, x267, x268, x269, x270, x271, x272], []⟩ w') :
    Code.wp Try.prog swText (Exit.then K Q) ⟨#[x0, x1, x2, x3, x4, x5, x6, .pointer (some ⟨cb, 0, none⟩), x8, .pointer (some ⟨rb, 0, none⟩), x10, x11, .pointer (some ⟨A, 0, none⟩), .int .u64 vn, .bool true, x15, x16, x17, x18, x19, x20, x21, x22, x23, x24, x25, x26, x27, x28, x29, x30, x31, x32, x33, x34, x35, x36, x37, x38, x39, x40, x41, x42, x43, x44, x45, x46, x47, x48, x49, x50, x51, x52, x53, x54, x55, x56, x57, x58, x59, x60, x61, x62, x63, x64, x65, x66, x67, x68, x69, x70, x71, x72, x73, x74, x75, x76, x77, x78, x79, x80, x81, x82, x83, x84, x85, x86, x87, x88, x89, x90, .int .i64 what, x92, x93, x94, x95, x96, x97, x98, x99, x100, x101, x102, x103, x104, x105, x106, x107, x108, x109, x110, x111, x112, x113, x114, x115, x116, x117, x118, x119, x120, x121, x122, x123, x124, x125, x126, x127, x128, x129, x130, x131, x132, x133, x134, x135, x136, x137, x138, x139, x140, x141, x142, x143, x144, x145, x146, x147, x148, x149, x150, x151, x152, x153, x154, x155, x156, x157, x158, x159, x160, x161, x162, x163, x164, x165, x166, x167, x168, x169, x170, x171, x172, x173, x174, x175, x176, x177, x178, x179, x180, x181, x182, x183, x184, x185, x186, x187, x188, x189, x190, x191, x192, x193, x194, x195, x196, x197, x198, x199, x200, x201, x202, x203, x204, x205, x206, x207, x208, x209, x210, x211, x212, x213, x214, x215, x216, x217, x218, x219, x220, x221, x222, x223, x224, x225, x226, x227, x228, x229, x230, x231, x232, x233, x234, x235, x236, x237, x238, x239, x240, x241, x242, x243, x244, x245, x246, x247, x248, x249, x250, x251, x252, x253, x254, x255, x256, x257, x258, x259, x260, x261, x262, x263, x264, x265, x266, x267, x268, x269, x270, x271, x272], []⟩ V := by
  have HG1 := Lib.hid H.HG
  have HS1 := Lib.hid H.HS
  have Hk := Lib.hid H.Hk
  have Hvn := Lib.hid H.Hvn
  have Hfit := Lib.hid H.Hfit
  have HP := Lib.hid H.HP
  have h66 := H.h66
  have Hm := Lib.hid hm
  clear H hm
  subst h0
  conv => arg 2; whnf
  obtain ⟨t, h, ps, tell, l, hC, hL⟩ := HG1.out
  obtain ⟨e, v', t', h', tell', l', hL', q1, q2⟩ := both_Start (n := n) (me := me) hL Hvn.out.1 Hvn.out.2
  have HC := Lib.hid hC
  have HL := Lib.hid hL'
  have Hq1 := Lib.hid q1
  have Hq2 := Lib.hid q2
  clear hC hL hL' q1 q2 HG1
  go_wp2_with fail
  refine (HC.out.c (fun S vb g hc hS _ _ => Hq1.out _ S cb vb g hc hS)).mono ?_
  rintro _ w3 ⟨rfl, hC3, hE⟩
  have HC3 := Lib.hid hC3
  have HS3 := Lib.hid (HS1.out.step hE)
  clear hC3 hE HC HS1 Hq1
  go_wp2_with fail
  refine (HC3.out.r (fun R hr hA _ => Hq2.out _ R _ rb hr hA)).mono ?_
  rintro _ w4 ⟨rfl, hC4, hE⟩
  have HG4 := Lib.hid (show Gd w.heap.size w4 (fun j => j < w.heap.size) (fun j => j = A) cb rb n me v' from ⟨t', h', ps, tell', l', hC4, HL.out⟩)
  have HS4 := Lib.hid (HS3.out.step hE)
  clear hC4 hE HC3 HS3 Hq2 HL
  go_wp2_with fail
  apply Hm.out
  exact ⟨cb, v', rfl, rfl, Lib.hid ⟨HG4.out, HS4.out⟩⟩

set_option maxHeartbeats 12800000 in
set_option maxRecDepth 1000000 in
theorem sw1 {w V : World} {cb rb A : Nat} {n me v vn what ahead frm pl pb pc : Int} {es : List Ent} {qa : Option Addr} {da : Nat} {K : Act → World → Prop} {Q : Exit → Act → World → Prop} {x0 x1 x2 x3 x4 x5 x6 x8 x10 x11 x15 x16 x17 x18 x19 x20 x21 x22 x23 x24 x25 x26 x27 x28 x29 x30 x31 x32 x33 x34 x35 x36 x37 x38 x39 x40 x41 x42 x43 x44 x45 x46 x47 x48 x49 x50 x51 x52 x53 x54 x55 x56 x57 x58 x59 x60 x61 x62 x63 x64 x65 x66 x67 x68 x69 x70 x71 x72 x73 x74 x75 x76 x77 x78 x79 x80 x81 x82 x83 x84 x85 x86 x87 x88 x89 x90 x92 x93 x94 x95 x96 x97 x98 x99 x100 x101 x102 x103 x104 x105 x106 x107 x108 x109 x110 x111 x112 x113 x114 x115 x116 x117 x118 x119 x120 x121 x122 x123 x124 x125 x126 x127 x128 x129 x130 x131 x132 x133 x134 x135 x136 x137 x138 x139 x140 x141 x142 x143 x144 x145 x146 x147 x148 x149 x150 x151 x152 x153 x154 x155 x156 x157 x158 x159 x160 x161 x162 x163 x164 x165 x166 x167 x168 x169 x170 x171 x172 x173 x174 x175 x176 x177 x178 x179 x180 x181 x182 x183 x184 x185 x186 x187 x188 x189 x190 x191 x192 x193 x194 x195 x196 x197 x198 x199 x200 x201 x202 x203 x204 x205 x206 x207 x208 x209 x210 x211 x212 x213 x214 x215 x216 x217 x218 x219 x220 x221 x222 x223 x224 x225 x226 x227 x228 x229 x230 x231 x232 x233 x234 x235 x236 x237 x238 x239 x240 x241 x242 x243 x244 x245 x246 x247 x248 x249 x250 x251 x252 x253 x254 x255 x256 x257 x258 x259 x260 x261 x262 x263 x264 x265 x266 x267 x268 x269 x270 x271 x272 : Value}
    (H : SwH w V cb rb A n me v vn what ahead frm pl pb pc es qa da) (h0 : 1 ≤ what ∧ what ≤ 3)
    (hm : ∀ (u7 u14 u15 u16 u17 u18 u19 u20 u21 u22 u23 u24 u25 u92 u93 u94 u95 u96 u97 u98 u99 u100 u101 u102 u103 u104 u105 u106 u107 u108 u109 u110 u111 u112 u113 u114 u115 u116 u117 u118 u119 u120 u121 u122 u123 u124 u125 u126 u127 u128 u129 u130 u131 u132 u133 u134 u135 u136 u137 u138 u139 u140 u141 u142 u143 u144 u145 u146 u147 u148 u149 u150 u151 u152 u153 u154 u155 u156 u157 u158 u159 u160 u161 u162 u163 u164 u165 u166 u167 u168 u169 u170 u171 u172 u173 u174 u175 u176 u177 u178 u179 u180 u181 u182 u183 u184 u185 u186 u187 u188 u189 u190 u191 u192 u193 u194 u195 u196 u197 u198 u199 u200 u201 u202 u203 u204 u205 u206 u207 u208 u209 u210 u211 u212 : Value) (w' : World), SwRel w rb A n me what ahead frm pl pb pc es qa da u7 u14 w' → K ⟨#[x0, x1, x2, x3, x4, x5, x6, u7, x8, .pointer (some ⟨rb, 0, none⟩), x10, x11, .pointer (some ⟨A, 0, none⟩), .int .u64 vn, u14, u15, u16, u17, u18, u19, u20, u21, u22, u23, u24, u25, x26, x27, x28, x29, x30, x31, x32, x33, x34, x35, x36, x37, x38, x39, x40, x41, x42, x43, x44, x45, x46, x47, x48, x49, x50, x51, x52, x53, x54, x55, x56, x57, x58, x59, x60, x61, x62, x63, x64, x65, x66, x67, x68, x69, x70, x71, x72, x73, x74, x75, x76, x77, x78, x79, x80, x81, x82, x83, x84, x85, x86, x87, x88, x89, x90, .int .i64 what, u92, u93, u94, u95, u96, u97, u98, u99, u100, u101, u102, u103, u104, u105, u106, u107, u108, u109, u110, u111, u112, u113, u114, u115, u116, u117, u118, u119, u120, u121, u122, u123, u124, u125, u126, u127, u128, u129, u130, u131, u132, u133, u134, u135, u136, u137, u138, u139, u140, u141, u142, u143, u144, u145, u146, u147, u148, u149, u150, u151, u152, u153, u154, u155, u156, u157, u158, u159, u160, u161, u162, u163, u164, u165, u166, u167, u168, u169, u170, u171, u172, u173, u174, u175, u176, u177, u178, u179, u180, u181, u182, u183, u184, u185, u186, u187, u188, u189, u190, u191, u192, u193, u194, u195, u196, u197, u198, u199, u200, u201, u202, u203, u204, u205, u206, u207, u208, u209, u210, u211, u212, x213, x214, x215, x216, x217, x218, x219, x220, x221, x222, x223, x224, x225, x226, x227, x228, x229, x230, x231, x232, x233, x234, x235, x236, x237, x238, x239, x240, x241, x242, x243, x244, x245, x246, x247, x248, x249, x250, x251, x252, x253, x254, x255, x256, x257, x258, x259, x260, x261, x262, x263, x264, x265, x266, x267, x268, x269, x270, x271, x272], []⟩ w') :
    Code.wp Try.prog swText (Exit.then K Q) ⟨#[x0, x1, x2, x3, x4, x5, x6, .pointer (some ⟨cb, 0, none⟩), x8, .pointer (some ⟨rb, 0, none⟩), x10, x11, .pointer (some ⟨A, 0, none⟩), .int .u64 vn, .bool true, x15, x16, x17, x18, x19, x20, x21, x22, x23, x24, x25, x26, x27, x28, x29, x30, x31, x32, x33, x34, x35, x36, x37, x38, x39, x40, x41, x42, x43, x44, x45, x46, x47, x48, x49, x50, x51, x52, x53, x54, x55, x56, x57, x58, x59, x60, x61, x62, x63, x64, x65, x66, x67, x68, x69, x70, x71, x72, x73, x74, x75, x76, x77, x78, x79, x80, x81, x82, x83, x84, x85, x86, x87, x88, x89, x90, .int .i64 what, x92, x93, x94, x95, x96, x97, x98, x99, x100, x101, x102, x103, x104, x105, x106, x107, x108, x109, x110, x111, x112, x113, x114, x115, x116, x117, x118, x119, x120, x121, x122, x123, x124, x125, x126, x127, x128, x129, x130, x131, x132, x133, x134, x135, x136, x137, x138, x139, x140, x141, x142, x143, x144, x145, x146, x147, x148, x149, x150, x151, x152, x153, x154, x155, x156, x157, x158, x159, x160, x161, x162, x163, x164, x165, x166, x167, x168, x169, x170, x171, x172, x173, x174, x175, x176, x177, x178, x179, x180, x181, x182, x183, x184, x185, x186, x187, x188, x189, x190, x191, x192, x193, x194, x195, x196, x197, x198, x199, x200, x201, x202, x203, x204, x205, x206, x207, x208, x209, x210, x211, x212, x213, x214, x215, x216, x217, x218, x219, x220, x221, x222, x223, x224, x225, x226, x227, x228, x229, x230, x231, x232, x233, x234, x235, x236, x237, x238, x239, x240, x241, x242, x243, x244, x245, x246, x247, x248, x249, x250, x251, x252, x253, x254, x255, x256, x257, x258, x259, x260, x261, x262, x263, x264, x265, x266, x267, x268, x269, x270, x271, x272], []⟩ V := by
  have HG1 := Lib.hid H.HG
  have HS1 := Lib.hid H.HS
  have Hk := Lib.hid H.Hk
  have Hvn := Lib.hid H.Hvn
  have Hfit := Lib.hid H.Hfit
  have HP := Lib.hid H.HP
  have h66 := H.h66
  have Hm := Lib.hid hm
  clear H hm
  have g0 : (what == (0 : Int)) = false := by rw [beq_eq_false_iff_ne]; omega
  conv => arg 2; whnf
  go_upto_if 101 with fail
  go_cut [101] from 103 to 104 (fun tv wx => tv = .bool true ∧ wx = V)
  case first =>
    by_cases h1 : what = 1
    · subst h1
      go_wp2_with fail
      go_meet
      case rel => exact ⟨rfl, rfl⟩
    · have g1 : (what == (1 : Int)) = false := by simpa using h1
      by_cases h2 : what = 2
      · subst h2
        go_wp2_with fail
        go_meet
        case rel => exact ⟨rfl, rfl⟩
      · have g2 : (what == (2 : Int)) = false := by simpa using h2
        by_cases h3 : what = 3
        · subst h3
          go_wp2_with fail
          go_meet
          case rel => exact ⟨rfl, rfl⟩
        · exact absurd h0 (by omega)
  case rest =>
    obtain ⟨rfl, rfl⟩ := hcut
    have f2 := HS1.out.kA.cell 2
    simp only [List.getElem?_toArray, List.getElem?_cons_succ, List.getElem?_cons_zero] at f2
    obtain ⟨t, h, ps, tell, l, hC, hL⟩ := HG1.out
    obtain ⟨r, e, t', tell', hL', q1, q2⟩ := both_Told Hk.out hL vn frm
    have HC := Lib.hid hC
    have HL := Lib.hid hL'
    have Hq1 := Lib.hid q1
    have Hq2 := Lib.hid q2
    clear hC hL hL' q1 q2 HG1
    go_wp2_with fail
    refine (HC.out.c (fun S vb g hc hS _ _ => Hq1.out _ S cb vb g hc hS)).mono ?_
    rintro _ w3 ⟨rfl, hC3, hE⟩
    have HC3 := Lib.hid hC3
    have HS3 := Lib.hid (HS1.out.step hE)
    clear hC3 hE HC HS1 Hq1 f2
    have f2 := HS3.out.kA.cell 2
    simp only [List.getElem?_toArray, List.getElem?_cons_succ, List.getElem?_cons_zero] at f2
    go_wp2_with fail
    refine (HC3.out.r (fun R hr hA _ => Hq2.out _ R _ rb hr hA)).mono ?_
    rintro _ w4 ⟨rfl, hC4, hE⟩
    have HG4 := Lib.hid (show Gd w.heap.size w4 (fun j => j < w.heap.size) (fun j => j = A) cb rb n me v from ⟨t', h, ps, tell', l, hC4, HL.out⟩)
    have HS4 := Lib.hid (HS3.out.step hE)
    clear hC4 hE HC3 HS3 Hq2 HL f2
    go_wp2_with fail
    apply Hm.out
    exact ⟨cb, v, rfl, rfl, Lib.hid ⟨HG4.out, HS4.out⟩⟩

set_option maxHeartbeats 12800000 in
set_option maxRecDepth 1000000 in
theorem sw4 {w V : World} {cb rb A : Nat} {n me v vn what ahead frm pl pb pc : Int} {es : List Ent} {qa : Option Addr} {da : Nat} {K : Act → World → Prop} {Q : Exit → Act → World → Prop} {x0 x1 x2 x3 x4 x5 x6 x8 x10 x11 x15 x16 x17 x18 x19 x20 x21 x22 x23 x24 x25 x26 x27 x28 x29 x30 x31 x32 x33 x34 x35 x36 x37 x38 x39 x40 x41 x42 x43 x44 x45 x46 x47 x48 x49 x50 x51 x52 x53 x54 x55 x56 x57 x58 x59 x60 x61 x62 x63 x64 x65 x66 x67 x68 x69 x70 x71 x72 x73 x74 x75 x76 x77 x78 x79 x80 x81 x82 x83 x84 x85 x86 x87 x88 x89 x90 x92 x93 x94 x95 x96 x97 x98 x99 x100 x101 x102 x103 x104 x105 x106 x107 x108 x109 x110 x111 x112 x113 x114 x115 x116 x117 x118 x119 x120 x121 x122 x123 x124 x125 x126 x127 x128 x129 x130 x131 x132 x133 x134 x135 x136 x137 x138 x139 x140 x141 x142 x143 x144 x145 x146 x147 x148 x149 x150 x151 x152 x153 x154 x155 x156 x157 x158 x159 x160 x161 x162 x163 x164 x165 x166 x167 x168 x169 x170 x171 x172 x173 x174 x175 x176 x177 x178 x179 x180 x181 x182 x183 x184 x185 x186 x187 x188 x189 x190 x191 x192 x193 x194 x195 x196 x197 x198 x199 x200 x201 x202 x203 x204 x205 x206 x207 x208 x209 x210 x211 x212 x213 x214 x215 x216 x217 x218 x219 x220 x221 x222 x223 x224 x225 x226 x227 x228 x229 x230 x231 x232 x233 x234 x235 x236 x237 x238 x239 x240 x241 x242 x243 x244 x245 x246 x247 x248 x249 x250 x251 x252 x253 x254 x255 x256 x257 x258 x259 x260 x261 x262 x263 x264 x265 x266 x267 x268 x269 x270 x271 x272 : Value}
    (H : SwH w V cb rb A n me v vn what ahead frm pl pb pc es qa da) (h0 : 4 ≤ what ∧ what ≤ 6)
    (hm : ∀ (u7 u14 u15 u16 u17 u18 u19 u20 u21 u22 u23 u24 u25 u92 u93 u94 u95 u96 u97 u98 u99 u100 u101 u102 u103 u104 u105 u106 u107 u108 u109 u110 u111 u112 u113 u114 u115 u116 u117 u118 u119 u120 u121 u122 u123 u124 u125 u126 u127 u128 u129 u130 u131 u132 u133 u134 u135 u136 u137 u138 u139 u140 u141 u142 u143 u144 u145 u146 u147 u148 u149 u150 u151 u152 u153 u154 u155 u156 u157 u158 u159 u160 u161 u162 u163 u164 u165 u166 u167 u168 u169 u170 u171 u172 u173 u174 u175 u176 u177 u178 u179 u180 u181 u182 u183 u184 u185 u186 u187 u188 u189 u190 u191 u192 u193 u194 u195 u196 u197 u198 u199 u200 u201 u202 u203 u204 u205 u206 u207 u208 u209 u210 u211 u212 : Value) (w' : World), SwRel w rb A n me what ahead frm pl pb pc es qa da u7 u14 w' → K ⟨#[x0, x1, x2, x3, x4, x5, x6, u7, x8, .pointer (some ⟨rb, 0, none⟩), x10, x11, .pointer (some ⟨A, 0, none⟩), .int .u64 vn, u14, u15, u16, u17, u18, u19, u20, u21, u22, u23, u24, u25, x26, x27, x28, x29, x30, x31, x32, x33, x34, x35, x36, x37, x38, x39, x40, x41, x42, x43, x44, x45, x46, x47, x48, x49, x50, x51, x52, x53, x54, x55, x56, x57, x58, x59, x60, x61, x62, x63, x64, x65, x66, x67, x68, x69, x70, x71, x72, x73, x74, x75, x76, x77, x78, x79, x80, x81, x82, x83, x84, x85, x86, x87, x88, x89, x90, .int .i64 what, u92, u93, u94, u95, u96, u97, u98, u99, u100, u101, u102, u103, u104, u105, u106, u107, u108, u109, u110, u111, u112, u113, u114, u115, u116, u117, u118, u119, u120, u121, u122, u123, u124, u125, u126, u127, u128, u129, u130, u131, u132, u133, u134, u135, u136, u137, u138, u139, u140, u141, u142, u143, u144, u145, u146, u147, u148, u149, u150, u151, u152, u153, u154, u155, u156, u157, u158, u159, u160, u161, u162, u163, u164, u165, u166, u167, u168, u169, u170, u171, u172, u173, u174, u175, u176, u177, u178, u179, u180, u181, u182, u183, u184, u185, u186, u187, u188, u189, u190, u191, u192, u193, u194, u195, u196, u197, u198, u199, u200, u201, u202, u203, u204, u205, u206, u207, u208, u209, u210, u211, u212, x213, x214, x215, x216, x217, x218, x219, x220, x221, x222, x223, x224, x225, x226, x227, x228, x229, x230, x231, x232, x233, x234, x235, x236, x237, x238, x239, x240, x241, x242, x243, x244, x245, x246, x247, x248, x249, x250, x251, x252, x253, x254, x255, x256, x257, x258, x259, x260, x261, x262, x263, x264, x265, x266, x267, x268, x269, x270, x271, x272], []⟩ w') :
    Code.wp Try.prog swText (Exit.then K Q) ⟨#[x0, x1, x2, x3, x4, x5, x6, .pointer (some ⟨cb, 0, none⟩), x8, .pointer (some ⟨rb, 0, none⟩), x10, x11, .pointer (some ⟨A, 0, none⟩), .int .u64 vn, .bool true, x15, x16, x17, x18, x19, x20, x21, x22, x23, x24, x25, x26, x27, x28, x29, x30, x31, x32, x33, x34, x35, x36, x37, x38, x39, x40, x41, x42, x43, x44, x45, x46, x47, x48, x49, x50, x51, x52, x53, x54, x55, x56, x57, x58, x59, x60, x61, x62, x63, x64, x65, x66, x67, x68, x69, x70, x71, x72, x73, x74, x75, x76, x77, x78, x79, x80, x81, x82, x83, x84, x85, x86, x87, x88, x89, x90, .int .i64 what, x92, x93, x94, x95, x96, x97, x98, x99, x100, x101, x102, x103, x104, x105, x106, x107, x108, x109, x110, x111, x112, x113, x114, x115, x116, x117, x118, x119, x120, x121, x122, x123, x124, x125, x126, x127, x128, x129, x130, x131, x132, x133, x134, x135, x136, x137, x138, x139, x140, x141, x142, x143, x144, x145, x146, x147, x148, x149, x150, x151, x152, x153, x154, x155, x156, x157, x158, x159, x160, x161, x162, x163, x164, x165, x166, x167, x168, x169, x170, x171, x172, x173, x174, x175, x176, x177, x178, x179, x180, x181, x182, x183, x184, x185, x186, x187, x188, x189, x190, x191, x192, x193, x194, x195, x196, x197, x198, x199, x200, x201, x202, x203, x204, x205, x206, x207, x208, x209, x210, x211, x212, x213, x214, x215, x216, x217, x218, x219, x220, x221, x222, x223, x224, x225, x226, x227, x228, x229, x230, x231, x232, x233, x234, x235, x236, x237, x238, x239, x240, x241, x242, x243, x244, x245, x246, x247, x248, x249, x250, x251, x252, x253, x254, x255, x256, x257, x258, x259, x260, x261, x262, x263, x264, x265, x266, x267, x268, x269, x270, x271, x272], []⟩ V := by
  have HG1 := Lib.hid H.HG
  have HS1 := Lib.hid H.HS
  have Hk := Lib.hid H.Hk
  have Hvn := Lib.hid H.Hvn
  have Hfit := Lib.hid H.Hfit
  have HP := Lib.hid H.HP
  have h66 := H.h66
  have Hm := Lib.hid hm
  clear H hm
  have g0 : (what == (0 : Int)) = false := by rw [beq_eq_false_iff_ne]; omega
  have g1 : (what == (1 : Int)) = false := by rw [beq_eq_false_iff_ne]; omega
  have g2 : (what == (2 : Int)) = false := by rw [beq_eq_false_iff_ne]; omega
  have g3 : (what == (3 : Int)) = false := by rw [beq_eq_false_iff_ne]; omega
  conv => arg 2; whnf
  go_upto_if 129 with fail
  go_cut [129] from 131 to 132 (fun tv wx => tv = .bool true ∧ wx = V)
  case first =>
    by_cases h1 : what = 4
    · subst h1
      go_wp2_with fail
      go_meet
      case rel => exact ⟨rfl, rfl⟩
    · have g1 : (what == (4 : Int)) = false := by simpa using h1
      by_cases h2 : what = 5
      · subst h2
        go_wp2_with fail
        go_meet
        case rel => exact ⟨rfl, rfl⟩
      · have g2 : (what == (5 : Int)) = false := by simpa using h2
        by_cases h3 : what = 6
        · subst h3
          go_wp2_with fail
          go_meet
          case rel => exact ⟨rfl, rfl⟩
        · exact absurd h0 (by omega)
  case rest =>
    obtain ⟨rfl, rfl⟩ := hcut
    obtain ⟨f0, f1, f2, f3, f4, f5, f6, -⟩ := HS1.out.kA.c7
    have hAz := HS1.out.kA.lt
    have hzw := HS1.out.X.size
    have hbp := (Below.refl wc.heap.size wc).alloc (Nat.le_refl _) (.cells #[.int .u64 pl, .int .u64 pb, .int .u64 pc, .slice qa es.length da] 35)
    have Hbp := Lib.hid hbp
    have HE0 := Lib.hid (HS1.out.q.below hbp)
    have HKP := Lib.hid (Blk.new wc 35 #[.int .u64 pl, .int .u64 pb, .int .u64 pc, .slice qa es.length da])
    clear f0 f1 hbp
    go_wp2_with (at_builtin; refine wpList_append_ents rfl _ _ rfl rfl (es := es) rfl HE0.out ?c1 (by omega) ?_)
    case c1 => intro j hj; omega
    intro p' c' W1 hen hsq hb2'
    have hb2 : Below (wc.alloc (.cells #[.int .u64 pl, .int .u64 pb, .int .u64 pc, .slice qa es.length da] 35)).heap.size (wc.alloc (.cells #[.int .u64 pl, .int .u64 pb, .int .u64 pc, .slice qa es.length da] 35)) W1 := by rw [World.size_alloc]; exact hb2'
    clear hb2'
    have kP2 := HKP.out.below hb2
    obtain ⟨m0, m1, m2, m3, n0, n1, n2, n3, hzp⟩ := kP2.c4
    have hz2 := hb2.size
    have hbV : Below wc.heap.size wc (W1.setCell ⟨wc.heap.size, 3, none⟩ (.slice p' es.length c')) := (Hbp.out.trans (hb2.mono Hbp.out.size)).setCell (p := ⟨wc.heap.size, 3, none⟩) (Nat.le_refl _) _
    have hzs : (W1.setCell ⟨wc.heap.size, 3, none⟩ (.slice p' es.length c')).heap.size = W1.heap.size := by simp [World.setCell]
    rw [World.size_alloc] at hz2
    have HG2 := Lib.hid (HG1.out.add (F' := fun j => j = A ∨ (wc.heap.size ≤ j ∧ j < W1.heap.size)) hbV (fun j hj => hj.elim .inl (fun h => .inr ⟨h.1, by rw [hzs]; exact h.2⟩)))
    have HS2 := Lib.hid ((HS1.out.below hbV).to (F' := fun j => j = A ∨ (wc.heap.size ≤ j ∧ j < W1.heap.size)) (fun j hj => .inl hj))
    have HK2 := Lib.hid (show Blk (W1.setCell ⟨wc.heap.size, 3, none⟩ (.slice p' es.length c')) wc.heap.size 35 #[.int .u64 pl, .int .u64 pb, .int .u64 pc, .slice p' es.length c'] from by simpa using kP2.set_ 3 (.slice p' es.length c'))
    have hEs := (Ext.refl (fun j => j = wc.heap.size) W1).setCell (p := ⟨wc.heap.size, 3, none⟩) (.inl rfl) (.slice p' es.length c')
    have HE2 := Lib.hid (hen.keep (S' := fun j => j < w.heap.size ∨ (wc.heap.size < j ∧ j < W1.heap.size)) (fun k hk hT => hEs.block k hk (by omega)) (fun k hT _ => by omega))
    have HQ2 := Lib.hid (hsq.ext (F' := fun j => wc.heap.size < j ∧ j < W1.heap.size) hEs (fun j hj => by omega) (fun j hj => by omega))
    have Hz := Lib.hid (show w.heap.size ≤ wc.heap.size ∧ A < wc.heap.size ∧ wc.heap.size < W1.heap.size from ⟨hzw, hAz, by omega⟩)
    clear hen hsq hb2 kP2 hbV hEs HG1 HS1 Hbp HE0 HKP hAz hzw hz2 f2 f3 f4 f5 f6
    obtain ⟨f2, f3, f4, f5, f6⟩ : _ ∧ _ ∧ _ ∧ _ ∧ _ := ⟨HS2.out.kA.c7.2.2.1, HS2.out.kA.c7.2.2.2.1, HS2.out.kA.c7.2.2.2.2.1, HS2.out.kA.c7.2.2.2.2.2.1, HS2.out.kA.c7.2.2.2.2.2.2.1⟩
    have Hzs := Lib.hid hzs
    clear hzs
    go_wp2_with fail
    clear f2 f3 f4 f5 f6 m0 m1 m2 m3 n0 n1 n2 n3 hzp
    generalize W1.setCell ⟨wc.heap.size, 3, none⟩ (.slice p' es.length c') = W2 at *
    generalize wc.heap.size = pkb at *
    obtain ⟨t, h, ps, tell, l, hC, hL⟩ := HG2.out
    obtain ⟨r, e, h', ps', l', hL', q1, q2⟩ := both_Hand Hk.out hL vn frm (pl := pl) Hfit.out (by omega) HP.out.1 HP.out.2
    have HC := Lib.hid hC
    have HL := Lib.hid hL'
    have Hq1 := Lib.hid q1
    have Hq2 := Lib.hid q2
    clear hC hL hL' q1 q2 HG2
    refine (HC.out.c (fun S vb g hc hS hg hgF => Hq1.out _ S _ cb vb g p' c' hc hS HE2.out (fun j hj => by have := Hz.out; have := Hzs.out; omega) (fun hj => hj.elim (fun h => by omega) (fun h => hgF (.inr ⟨by omega, h.2⟩))))).mono ?_
    rintro _ w3 ⟨rfl, hC3, hE⟩
    have HC3 := Lib.hid hC3
    have HS3 := Lib.hid (HS2.out.step hE)
    have HK3 := Lib.hid (HK2.out.ext hE (fun hm => hm.2 (.inr ⟨Nat.le_refl _, Hz.out.2.2⟩)))
    have HQ3 := Lib.hid (HQ2.out.ext hE (fun j hj hm => hm.2 (.inr ⟨Nat.le_of_lt hj.1, hj.2⟩)) (fun _ h => h))
    clear hC3 hE HC HS2 HK2 HQ2 HE2 Hq1 Hzs
    obtain ⟨f2, f3, f4, f5, f6⟩ : _ ∧ _ ∧ _ ∧ _ ∧ _ := ⟨HS3.out.kA.c7.2.2.1, HS3.out.kA.c7.2.2.2.1, HS3.out.kA.c7.2.2.2.2.1, HS3.out.kA.c7.2.2.2.2.2.1, HS3.out.kA.c7.2.2.2.2.2.2.1⟩
    go_wp2_with fail
    refine (HC3.out.r (fun R hr hA hAw => Hq2.out _ R _ rb qa da hr hA hAw HS3.out.q)).mono ?_
    rintro _ w4 ⟨rfl, hC4, hE⟩
    have HG4 := Lib.hid (show Gd w.heap.size w4 (fun j => j < w.heap.size) (fun j => j = A ∨ (pkb ≤ j ∧ j < W1.heap.size)) cb rb n me v from ⟨t, h', ps', tell, l', hC4, HL.out⟩)
    have HS4 := Lib.hid (HS3.out.step hE)
    have HK4 := Lib.hid (HK3.out.ext hE (fun hm => hm.2 (.inr ⟨Nat.le_refl _, Hz.out.2.2⟩)))
    have HQ4 := Lib.hid (HQ3.out.ext hE (fun j hj hm => hm.2 (.inr ⟨Nat.le_of_lt hj.1, hj.2⟩)) (fun _ h => h))
    clear hC4 hE HC3 HS3 HK3 HQ3 Hq2 HL f2 f3 f4 f5 f6
    go_upto_block 3 with fail
    refine spoil3 HQ4.out HK4.out (by omega) ?_
    intro u24 u158 u159 u160 u161 u162 u163 u164 u165 u166 u167 u168 u169 u170 u171 u172 u173 w5 hE5
    have HG5 := Lib.hid ((HG4.out.spoil hE5 (fun j hj => ⟨by have := Hz.out; omega, .inr ⟨by omega, hj.2⟩⟩)).add (F' := fun j => j = A) (Below.refl _ _) (fun j hj => .inl (.inl hj)))
    have HS5 := Lib.hid (HS4.out.ext hE5 (fun j hj => by have := Hz.out; omega)).fa
    clear hE5 HG4 HS4 HK4 HQ4
    go_wp2_with fail
    apply Hm.out
    exact ⟨cb, v, rfl, rfl, Lib.hid ⟨HG5.out, HS5.out⟩⟩

set_option maxHeartbeats 12800000 in
set_option maxRecDepth 1000000 in
theorem sw7 {w V : World} {cb rb A : Nat} {n me v vn what ahead frm pl pb pc : Int} {es : List Ent} {qa : Option Addr} {da : Nat} {K : Act → World → Prop} {Q : Exit → Act → World → Prop} {x0 x1 x2 x3 x4 x5 x6 x8 x10 x11 x15 x16 x17 x18 x19 x20 x21 x22 x23 x24 x25 x26 x27 x28 x29 x30 x31 x32 x33 x34 x35 x36 x37 x38 x39 x40 x41 x42 x43 x44 x45 x46 x47 x48 x49 x50 x51 x52 x53 x54 x55 x56 x57 x58 x59 x60 x61 x62 x63 x64 x65 x66 x67 x68 x69 x70 x71 x72 x73 x74 x75 x76 x77 x78 x79 x80 x81 x82 x83 x84 x85 x86 x87 x88 x89 x90 x92 x93 x94 x95 x96 x97 x98 x99 x100 x101 x102 x103 x104 x105 x106 x107 x108 x109 x110 x111 x112 x113 x114 x115 x116 x117 x118 x119 x120 x121 x122 x123 x124 x125 x126 x127 x128 x129 x130 x131 x132 x133 x134 x135 x136 x137 x138 x139 x140 x141 x142 x143 x144 x145 x146 x147 x148 x149 x150 x151 x152 x153 x154 x155 x156 x157 x158 x159 x160 x161 x162 x163 x164 x165 x166 x167 x168 x169 x170 x171 x172 x173 x174 x175 x176 x177 x178 x179 x180 x181 x182 x183 x184 x185 x186 x187 x188 x189 x190 x191 x192 x193 x194 x195 x196 x197 x198 x199 x200 x201 x202 x203 x204 x205 x206 x207 x208 x209 x210 x211 x212 x213 x214 x215 x216 x217 x218 x219 x220 x221 x222 x223 x224 x225 x226 x227 x228 x229 x230 x231 x232 x233 x234 x235 x236 x237 x238 x239 x240 x241 x242 x243 x244 x245 x246 x247 x248 x249 x250 x251 x252 x253 x254 x255 x256 x257 x258 x259 x260 x261 x262 x263 x264 x265 x266 x267 x268 x269 x270 x271 x272 : Value}
    (H : SwH w V cb rb A n me v vn what ahead frm pl pb pc es qa da) (h0 : what = 7)
    (hm : ∀ (u7 u14 u15 u16 u17 u18 u19 u20 u21 u22 u23 u24 u25 u92 u93 u94 u95 u96 u97 u98 u99 u100 u101 u102 u103 u104 u105 u106 u107 u108 u109 u110 u111 u112 u113 u114 u115 u116 u117 u118 u119 u120 u121 u122 u123 u124 u125 u126 u127 u128 u129 u130 u131 u132 u133 u134 u135 u136 u137 u138 u139 u140 u141 u142 u143 u144 u145 u146 u147 u148 u149 u150 u151 u152 u153 u154 u155 u156 u157 u158 u159 u160 u161 u162 u163 u164 u165 u166 u167 u168 u169 u170 u171 u172 u173 u174 u175 u176 u177 u178 u179 u180 u181 u182 u183 u184 u185 u186 u187 u188 u189 u190 u191 u192 u193 u194 u195 u196 u197 u198 u199 u200 u201 u202 u203 u204 u205 u206 u207 u208 u209 u210 u211 u212 : Value) (w' : World), SwRel w rb A n me what ahead frm pl pb pc es qa da u7 u14 w' → K ⟨#[x0, x1, x2, x3, x4, x5, x6, u7, x8, .pointer (some ⟨rb, 0, none⟩), x10, x11, .pointer (some ⟨A, 0, none⟩), .int .u64 vn, u14, u15, u16, u17, u18, u19, u20, u21, u22, u23, u24, u25, x26, x27, x28, x29, x30, x31, x32, x33, x34, x35, x36, x37, x38, x39, x40, x41, x42, x43, x44, x45, x46, x47, x48, x49, x50, x51, x52, x53, x54, x55, x56, x57, x58, x59, x60, x61, x62, x63, x64, x65, x66, x67, x68, x69, x70, x71, x72, x73, x74, x75, x76, x77, x78, x79, x80, x81, x82, x83, x84, x85, x86, x87, x88, x89, x90, .int .i64 what, u92, u93, u94, u95, u96, u97, u98, u99, u100, u101, u102, u103, u104, u105, u106, u107, u108, u109, u110, u111, u112, u113, u114, u115, u116, u117, u118, u119, u120, u121, u122, u123, u124, u125, u126, u127, u128, u129, u130, u131, u132, u133, u134, u135, u136, u137, u138, u139, u140, u141, u142, u143, u144, u145, u146, u147, u148, u149, u150, u151, u152, u153, u154, u155, u156, u157, u158, u159, u160, u161, u162, u163, u164, u165, u166, u167, u168, u169, u170, u171, u172, u173, u174, u175, u176, u177, u178, u179, u180, u181, u182, u183, u184, u185, u186, u187, u188, u189, u190, u191, u192, u193, u194, u195, u196, u197, u198, u199, u200, u201, u202, u203, u204, u205, u206, u207, u208, u209, u210, u211, u212, x213, x214, x215, x216, x217, x218, x219, x220, x221, x222, x223, x224, x225, x226, x227, x228, x229, x230, x231, x232, x233, x234, x235, x236, x237, x238, x239, x240, x241, x242, x243, x244, x245, x246, x247, x248, x249, x250, x251, x252, x253, x254, x255, x256, x257, x258, x259, x260, x261, x262, x263, x264, x265, x266, x267, x268, x269, x270, x271, x272], []⟩ w') :
    Code.wp Try.prog swText (Exit.then K Q) ⟨#[x0, x1, x2, x3, x4, x5, x6, .pointer (some ⟨cb, 0, none⟩), x8, .pointer (some ⟨rb, 0, none⟩), x10, x11, .pointer (some ⟨A, 0, none⟩), .int .u64 vn, .bool true, x15, x16, x17, x18, x19, x20, x21, x22, x23, x24, x25, x26, x27, x28, x29, x30, x31, x32, x33, x34, x35, x36, x37, x38, x39, x40, x41, x42, x43, x44, x45, x46, x47, x48, x49, x50, x51, x52, x53, x54, x55, x56, x57, x58, x59, x60, x61, x62, x63, x64, x65, x66, x67, x68, x69, x70, x71, x72, x73, x74, x75, x76, x77, x78, x79, x80, x81, x82, x83, x84, x85, x86, x87, x88, x89, x90, .int .i64 what, x92, x93, x94, x95, x96, x97, x98, x99, x100, x101, x102, x103, x104, x105, x106, x107, x108, x109, x110, x111, x112, x113, x114, x115, x116, x117, x118, x119, x120, x121, x122, x123, x124, x125, x126, x127, x128, x129, x130, x131, x132, x133, x134, x135, x136, x137, x138, x139, x140, x141, x142, x143, x144, x145, x146, x147, x148, x149, x150, x151, x152, x153, x154, x155, x156, x157, x158, x159, x160, x161, x162, x163, x164, x165, x166, x167, x168, x169, x170, x171, x172, x173, x174, x175, x176, x177, x178, x179, x180, x181, x182, x183, x184, x185, x186, x187, x188, x189, x190, x191, x192, x193, x194, x195, x196, x197, x198, x199, x200, x201, x202, x203, x204, x205, x206, x207, x208, x209, x210, x211, x212, x213, x214, x215, x216, x217, x218, x219, x220, x221, x222, x223, x224, x225, x226, x227, x228, x229, x230, x231, x232, x233, x234, x235, x236, x237, x238, x239, x240, x241, x242, x243, x244, x245, x246, x247, x248, x249, x250, x251, x252, x253, x254, x255, x256, x257, x258, x259, x260, x261, x262, x263, x264, x265, x266, x267, x268, x269, x270, x271, x272], []⟩ V := by
  have HG1 := Lib.hid H.HG
  have HS1 := Lib.hid H.HS
  have Hk := Lib.hid H.Hk
  have Hvn := Lib.hid H.Hvn
  have Hfit := Lib.hid H.Hfit
  have HP := Lib.hid H.HP
  have h66 := H.h66
  have Hm := Lib.hid hm
  clear H hm
  subst h0
  conv => arg 2; whnf
  have f0 := HS1.out.kA.cell 0
  simp only [List.getElem?_toArray, List.getElem?_cons_succ, List.getElem?_cons_zero] at f0
  go_wp2_with fail
  refine HG1.out.copy.mono ?_
  rintro _ w3 ⟨cb2, rfl, hy, -, hb⟩
  have HY := Lib.hid hy
  have HS3 := Lib.hid (HS1.out.below hb)
  clear hy hb f0 HG1 HS1
  obtain ⟨r2, hzr⟩ := HY.out.gd.view
  go_wp2_with fail
  refine (HY.out.told Hk.out _ _).mono ?_
  rintro _ w4 ⟨⟨r4, e4, rfl⟩, hy, hE⟩
  have HY4 := Lib.hid hy
  have HS4 := Lib.hid (HS3.out.step hE)
  clear hy hE HY HS3 r2 hzr
  obtain ⟨r2, hzr⟩ := HY4.out.gd.view
  go_wp2_with fail
  refine (HY4.out.hand Hk.out _ _ (by decide) (by decide)).mono ?_
  rintro _ w5 ⟨⟨r5, e5, rfl⟩, hy, hE⟩
  have HY5 := Lib.hid hy
  have HS5 := Lib.hid (HS4.out.step hE)
  clear hy hE HY4 HS4 r2 hzr
  obtain ⟨r2, hzr⟩ := HY5.out.gd.view
  obtain ⟨v1, hv1⟩ : ∃ x, IntKind.u64.wrap (v + 1) = x := ⟨_, rfl⟩
  have Hv1 := Lib.hid (show 0 ≤ v1 ∧ v1 < 18446744073709551616 from by rw [← hv1, IntKind.wrap_u64]; omega)
  go_wp2_with fail
  clear hv1
  refine (HY5.out.start Hk.out Hv1.out.1 Hv1.out.2).mono ?_
  rintro _ w6 ⟨⟨e6, rfl⟩, hg, hE⟩
  have HG6 := Lib.hid hg
  have HS6 := Lib.hid (HS5.out.step hE)
  clear hg hE HY5 HS5 r2 hzr
  go_wp2_with fail
  apply Hm.out
  exact ⟨cb2, v, rfl, rfl, Lib.hid ⟨HG6.out, HS6.out⟩⟩

set_option maxHeartbeats 12800000 in
set_option maxRecDepth 1000000 in
theorem sw8 {w V : World} {cb rb A : Nat} {n me v vn what ahead frm pl pb pc : Int} {es : List Ent} {qa : Option Addr} {da : Nat} {K : Act → World → Prop} {Q : Exit → Act → World → Prop} {x0 x1 x2 x3 x4 x5 x6 x8 x10 x11 x15 x16 x17 x18 x19 x20 x21 x22 x23 x24 x25 x26 x27 x28 x29 x30 x31 x32 x33 x34 x35 x36 x37 x38 x39 x40 x41 x42 x43 x44 x45 x46 x47 x48 x49 x50 x51 x52 x53 x54 x55 x56 x57 x58 x59 x60 x61 x62 x63 x64 x65 x66 x67 x68 x69 x70 x71 x72 x73 x74 x75 x76 x77 x78 x79 x80 x81 x82 x83 x84 x85 x86 x87 x88 x89 x90 x92 x93 x94 x95 x96 x97 x98 x99 x100 x101 x102 x103 x104 x105 x106 x107 x108 x109 x110 x111 x112 x113 x114 x115 x116 x117 x118 x119 x120 x121 x122 x123 x124 x125 x126 x127 x128 x129 x130 x131 x132 x133 x134 x135 x136 x137 x138 x139 x140 x141 x142 x143 x144 x145 x146 x147 x148 x149 x150 x151 x152 x153 x154 x155 x156 x157 x158 x159 x160 x161 x162 x163 x164 x165 x166 x167 x168 x169 x170 x171 x172 x173 x174 x175 x176 x177 x178 x179 x180 x181 x182 x183 x184 x185 x186 x187 x188 x189 x190 x191 x192 x193 x194 x195 x196 x197 x198 x199 x200 x201 x202 x203 x204 x205 x206 x207 x208 x209 x210 x211 x212 x213 x214 x215 x216 x217 x218 x219 x220 x221 x222 x223 x224 x225 x226 x227 x228 x229 x230 x231 x232 x233 x234 x235 x236 x237 x238 x239 x240 x241 x242 x243 x244 x245 x246 x247 x248 x249 x250 x251 x252 x253 x254 x255 x256 x257 x258 x259 x260 x261 x262 x263 x264 x265 x266 x267 x268 x269 x270 x271 x272 : Value}
    (H : SwH w V cb rb A n me v vn what ahead frm pl pb pc es qa da) (h0 : what = 8)
    (hm : ∀ (u7 u14 u15 u16 u17 u18 u19 u20 u21 u22 u23 u24 u25 u92 u93 u94 u95 u96 u97 u98 u99 u100 u101 u102 u103 u104 u105 u106 u107 u108 u109 u110 u111 u112 u113 u114 u115 u116 u117 u118 u119 u120 u121 u122 u123 u124 u125 u126 u127 u128 u129 u130 u131 u132 u133 u134 u135 u136 u137 u138 u139 u140 u141 u142 u143 u144 u145 u146 u147 u148 u149 u150 u151 u152 u153 u154 u155 u156 u157 u158 u159 u160 u161 u162 u163 u164 u165 u166 u167 u168 u169 u170 u171 u172 u173 u174 u175 u176 u177 u178 u179 u180 u181 u182 u183 u184 u185 u186 u187 u188 u189 u190 u191 u192 u193 u194 u195 u196 u197 u198 u199 u200 u201 u202 u203 u204 u205 u206 u207 u208 u209 u210 u211 u212 : Value) (w' : World), SwRel w rb A n me what ahead frm pl pb pc es qa da u7 u14 w' → K ⟨#[x0, x1, x2, x3, x4, x5, x6, u7, x8, .pointer (some ⟨rb, 0, none⟩), x10, x11, .pointer (some ⟨A, 0, none⟩), .int .u64 vn, u14, u15, u16, u17, u18, u19, u20, u21, u22, u23, u24, u25, x26, x27, x28, x29, x30, x31, x32, x33, x34, x35, x36, x37, x38, x39, x40, x41, x42, x43, x44, x45, x46, x47, x48, x49, x50, x51, x52, x53, x54, x55, x56, x57, x58, x59, x60, x61, x62, x63, x64, x65, x66, x67, x68, x69, x70, x71, x72, x73, x74, x75, x76, x77, x78, x79, x80, x81, x82, x83, x84, x85, x86, x87, x88, x89, x90, .int .i64 what, u92, u93, u94, u95, u96, u97, u98, u99, u100, u101, u102, u103, u104, u105, u106, u107, u108, u109, u110, u111, u112, u113, u114, u115, u116, u117, u118, u119, u120, u121, u122, u123, u124, u125, u126, u127, u128, u129, u130, u131, u132, u133, u134, u135, u136, u137, u138, u139, u140, u141, u142, u143, u144, u145, u146, u147, u148, u149, u150, u151, u152, u153, u154, u155, u156, u157, u158, u159, u160, u161, u162, u163, u164, u165, u166, u167, u168, u169, u170, u171, u172, u173, u174, u175, u176, u177, u178, u179, u180, u181, u182, u183, u184, u185, u186, u187, u188, u189, u190, u191, u192, u193, u194, u195, u196, u197, u198, u199, u200, u201, u202, u203, u204, u205, u206, u207, u208, u209, u210, u211, u212, x213, x214, x215, x216, x217, x218, x219, x220, x221, x222, x223, x224, x225, x226, x227, x228, x229, x230, x231, x232, x233, x234, x235, x236, x237, x238, x239, x240, x241, x242, x243, x244, x245, x246, x247, x248, x249, x250, x251, x252, x253, x254, x255, x256, x257, x258, x259, x260, x261, x262, x263, x264, x265, x266, x267, x268, x269, x270, x271, x272], []⟩ w') :
    Code.wp Try.prog swText (Exit.then K Q) ⟨#[x0, x1, x2, x3, x4, x5, x6, .pointer (some ⟨cb, 0, none⟩), x8, .pointer (some ⟨rb, 0, none⟩), x10, x11, .pointer (some ⟨A, 0, none⟩), .int .u64 vn, .bool true, x15, x16, x17, x18, x19, x20, x21, x22, x23, x24, x25, x26, x27, x28, x29, x30, x31, x32, x33, x34, x35, x36, x37, x38, x39, x40, x41, x42, x43, x44, x45, x46, x47, x48, x49, x50, x51, x52, x53, x54, x55, x56, x57, x58, x59, x60, x61, x62, x63, x64, x65, x66, x67, x68, x69, x70, x71, x72, x73, x74, x75, x76, x77, x78, x79, x80, x81, x82, x83, x84, x85, x86, x87, x88, x89, x90, .int .i64 what, x92, x93, x94, x95, x96, x97, x98, x99, x100, x101, x102, x103, x104, x105, x106, x107, x108, x109, x110, x111, x112, x113, x114, x115, x116, x117, x118, x119, x120, x121, x122, x123, x124, x125, x126, x127, x128, x129, x130, x131, x132, x133, x134, x135, x136, x137, x138, x139, x140, x141, x142, x143, x144, x145, x146, x147, x148, x149, x150, x151, x152, x153, x154, x155, x156, x157, x158, x159, x160, x161, x162, x163, x164, x165, x166, x167, x168, x169, x170, x171, x172, x173, x174, x175, x176, x177, x178, x179, x180, x181, x182, x183, x184, x185, x186, x187, x188, x189, x190, x191, x192, x193, x194, x195, x196, x197, x198, x199, x200, x201, x202, x203, x204, x205, x206, x207, x208, x209, x210, x211, x212, x213, x214, x215, x216, x217, x218, x219, x220, x221, x222, x223, x224, x225, x226, x227, x228, x229, x230, x231, x232, x233, x234, x235, x236, x237, x238, x239, x240, x241, x242, x243, x244, x245, x246, x247, x248, x249, x250, x251, x252, x253, x254, x255, x256, x257, x258, x259, x260, x261, x262, x263, x264, x265, x266, x267, x268, x269, x270, x271, x272], []⟩ V := by
  have HG1 := Lib.hid H.HG
  have HS1 := Lib.hid H.HS
  have Hk := Lib.hid H.Hk
  have Hvn := Lib.hid H.Hvn
  have Hfit := Lib.hid H.Hfit
  have HP := Lib.hid H.HP
  have h66 := H.h66
  have Hm := Lib.hid hm
  clear H hm
  subst h0
  conv => arg 2; whnf
  have f0 := HS1.out.kA.cell 0
  simp only [List.getElem?_toArray, List.getElem?_cons_succ, List.getElem?_cons_zero] at f0
  go_wp2_with fail
  refine HG1.out.copy.mono ?_
  rintro _ w3 ⟨cb2, rfl, -, hy, hb⟩
  have HY := Lib.hid hy
  have HS3 := Lib.hid (HS1.out.below hb)
  clear hy hb f0 HG1 HS1
  obtain ⟨r2, hzr⟩ := HY.out.gd.view
  go_wp2_with fail
  refine (HY.out.told Hk.out _ _).mono ?_
  rintro _ w4 ⟨⟨r4, e4, rfl⟩, hy, hE⟩
  have HY4 := Lib.hid hy
  have HS4 := Lib.hid (HS3.out.step hE)
  clear hy hE HY HS3 r2 hzr
  obtain ⟨r2, hzr⟩ := HY4.out.gd.view
  go_wp2_with fail
  refine (HY4.out.hand Hk.out _ _ (by decide) (by decide)).mono ?_
  rintro _ w5 ⟨⟨r5, e5, rfl⟩, hy, hE⟩
  have HY5 := Lib.hid hy
  have HS5 := Lib.hid (HS4.out.step hE)
  clear hy hE HY4 HS4 r2 hzr
  obtain ⟨r2, hzr⟩ := HY5.out.gd.view
  obtain ⟨v1, hv1⟩ : ∃ x, IntKind.u64.wrap (v + 1) = x := ⟨_, rfl⟩
  have Hv1 := Lib.hid (show 0 ≤ v1 ∧ v1 < 18446744073709551616 from by rw [← hv1, IntKind.wrap_u64]; omega)
  go_wp2_with fail
  clear hv1
  refine (HY5.out.start Hk.out Hv1.out.1 Hv1.out.2).mono ?_
  rintro _ w6 ⟨⟨e6, rfl⟩, hg, hE⟩
  have HG6 := Lib.hid hg
  have HS6 := Lib.hid (HS5.out.step hE)
  clear hg hE HY5 HS5 r2 hzr
  go_wp2_with fail
  apply Hm.out
  exact ⟨cb, v, rfl, rfl, Lib.hid ⟨HG6.out, HS6.out⟩⟩

set_option maxHeartbeats 12800000 in
set_option maxRecDepth 1000000 in
theorem sw9 {w V : World} {cb rb A : Nat} {n me v vn what ahead frm pl pb pc : Int} {es : List Ent} {qa : Option Addr} {da : Nat} {K : Act → World → Prop} {Q : Exit → Act → World → Prop} {x0 x1 x2 x3 x4 x5 x6 x8 x10 x11 x15 x16 x17 x18 x19 x20 x21 x22 x23 x24 x25 x26 x27 x28 x29 x30 x31 x32 x33 x34 x35 x36 x37 x38 x39 x40 x41 x42 x43 x44 x45 x46 x47 x48 x49 x50 x51 x52 x53 x54 x55 x56 x57 x58 x59 x60 x61 x62 x63 x64 x65 x66 x67 x68 x69 x70 x71 x72 x73 x74 x75 x76 x77 x78 x79 x80 x81 x82 x83 x84 x85 x86 x87 x88 x89 x90 x92 x93 x94 x95 x96 x97 x98 x99 x100 x101 x102 x103 x104 x105 x106 x107 x108 x109 x110 x111 x112 x113 x114 x115 x116 x117 x118 x119 x120 x121 x122 x123 x124 x125 x126 x127 x128 x129 x130 x131 x132 x133 x134 x135 x136 x137 x138 x139 x140 x141 x142 x143 x144 x145 x146 x147 x148 x149 x150 x151 x152 x153 x154 x155 x156 x157 x158 x159 x160 x161 x162 x163 x164 x165 x166 x167 x168 x169 x170 x171 x172 x173 x174 x175 x176 x177 x178 x179 x180 x181 x182 x183 x184 x185 x186 x187 x188 x189 x190 x191 x192 x193 x194 x195 x196 x197 x198 x199 x200 x201 x202 x203 x204 x205 x206 x207 x208 x209 x210 x211 x212 x213 x214 x215 x216 x217 x218 x219 x220 x221 x222 x223 x224 x225 x226 x227 x228 x229 x230 x231 x232 x233 x234 x235 x236 x237 x238 x239 x240 x241 x242 x243 x244 x245 x246 x247 x248 x249 x250 x251 x252 x253 x254 x255 x256 x257 x258 x259 x260 x261 x262 x263 x264 x265 x266 x267 x268 x269 x270 x271 x272 : Value}
    (H : SwH w V cb rb A n me v vn what ahead frm pl pb pc es qa da) (h0 : what < 0 ∨ 8 < what)
    (hm : ∀ (u7 u14 u15 u16 u17 u18 u19 u20 u21 u22 u23 u24 u25 u92 u93 u94 u95 u96 u97 u98 u99 u100 u101 u102 u103 u104 u105 u106 u107 u108 u109 u110 u111 u112 u113 u114 u115 u116 u117 u118 u119 u120 u121 u122 u123 u124 u125 u126 u127 u128 u129 u130 u131 u132 u133 u134 u135 u136 u137 u138 u139 u140 u141 u142 u143 u144 u145 u146 u147 u148 u149 u150 u151 u152 u153 u154 u155 u156 u157 u158 u159 u160 u161 u162 u163 u164 u165 u166 u167 u168 u169 u170 u171 u172 u173 u174 u175 u176 u177 u178 u179 u180 u181 u182 u183 u184 u185 u186 u187 u188 u189 u190 u191 u192 u193 u194 u195 u196 u197 u198 u199 u200 u201 u202 u203 u204 u205 u206 u207 u208 u209 u210 u211 u212 : Value) (w' : World), SwRel w rb A n me what ahead frm pl pb pc es qa da u7 u14 w' → K ⟨#[x0, x1, x2, x3, x4, x5, x6, u7, x8, .pointer (some ⟨rb, 0, none⟩), x10, x11, .pointer (some ⟨A, 0, none⟩), .int .u64 vn, u14, u15, u16, u17, u18, u19, u20, u21, u22, u23, u24, u25, x26, x27, x28, x29, x30, x31, x32, x33, x34, x35, x36, x37, x38, x39, x40, x41, x42, x43, x44, x45, x46, x47, x48, x49, x50, x51, x52, x53, x54, x55, x56, x57, x58, x59, x60, x61, x62, x63, x64, x65, x66, x67, x68, x69, x70, x71, x72, x73, x74, x75, x76, x77, x78, x79, x80, x81, x82, x83, x84, x85, x86, x87, x88, x89, x90, .int .i64 what, u92, u93, u94, u95, u96, u97, u98, u99, u100, u101, u102, u103, u104, u105, u106, u107, u108, u109, u110, u111, u112, u113, u114, u115, u116, u117, u118, u119, u120, u121, u122, u123, u124, u125, u126, u127, u128, u129, u130, u131, u132, u133, u134, u135, u136, u137, u138, u139, u140, u141, u142, u143, u144, u145, u146, u147, u148, u149, u150, u151, u152, u153, u154, u155, u156, u157, u158, u159, u160, u161, u162, u163, u164, u165, u166, u167, u168, u169, u170, u171, u172, u173, u174, u175, u176, u177, u178, u179, u180, u181, u182, u183, u184, u185, u186, u187, u188, u189, u190, u191, u192, u193, u194, u195, u196, u197, u198, u199, u200, u201, u202, u203, u204, u205, u206, u207, u208, u209, u210, u211, u212, x213, x214, x215, x216, x217, x218, x219, x220, x221, x222, x223, x224, x225, x226, x227, x228, x229, x230, x231, x232, x233, x234, x235, x236, x237, x238, x239, x240, x241, x242, x243, x244, x245, x246, x247, x248, x249, x250, x251, x252, x253, x254, x255, x256, x257, x258, x259, x260, x261, x262, x263, x264, x265, x266, x267, x268, x269, x270, x271, x272], []⟩ w') :
    Code.wp Try.prog swText (Exit.then K Q) ⟨#[x0, x1, x2, x3, x4, x5, x6, .pointer (some ⟨cb, 0, none⟩), x8, .pointer (some ⟨rb, 0, none⟩), x10, x11, .pointer (some ⟨A, 0, none⟩), .int .u64 vn, .bool true, x15, x16, x17, x18, x19, x20, x21, x22, x23, x24, x25, x26, x27, x28, x29, x30, x31, x32, x33, x34, x35, x36, x37, x38, x39, x40, x41, x42, x43, x44, x45, x46, x47, x48, x49, x50, x51, x52, x53, x54, x55, x56, x57, x58, x59, x60, x61, x62, x63, x64, x65, x66, x67, x68, x69, x70, x71, x72, x73, x74, x75, x76, x77, x78, x79, x80, x81, x82, x83, x84, x85, x86, x87, x88, x89, x90, .int .i64 what, x92, x93, x94, x95, x96, x97, x98, x99, x100, x101, x102, x103, x104, x105, x106, x107, x108, x109, x110, x111, x112, x113, x114, x115, x116, x117, x118, x119, x120, x121, x122, x123, x124, x125, x126, x127, x128, x129, x130, x131, x132, x133, x134, x135, x136, x137, x138, x139, x140, x141, x142, x143, x144, x145, x146, x147, x148, x149, x150, x151, x152, x153, x154, x155, x156, x157, x158, x159, x160, x161, x162, x163, x164, x165, x166, x167, x168, x169, x170, x171, x172, x173, x174, x175, x176, x177, x178, x179, x180, x181, x182, x183, x184, x185, x186, x187, x188, x189, x190, x191, x192, x193, x194, x195, x196, x197, x198, x199, x200, x201, x202, x203, x204, x205, x206, x207, x208, x209, x210, x211, x212, x213, x214, x215, x216, x217, x218, x219, x220, x221, x222, x223, x224, x225, x226, x227, x228, x229, x230, x231, x232, x233, x234, x235, x236, x237, x238, x239, x240, x241, x242, x243, x244, x245, x246, x247, x248, x249, x250, x251, x252, x253, x254, x255, x256, x257, x258, x259, x260, x261, x262, x263, x264, x265, x266, x267, x268, x269, x270, x271, x272], []⟩ V := by
  have HG1 := Lib.hid H.HG
  have HS1 := Lib.hid H.HS
  have Hk := Lib.hid H.Hk
  have Hvn := Lib.hid H.Hvn
  have Hfit := Lib.hid H.Hfit
  have HP := Lib.hid H.HP
  have h66 := H.h66
  have Hm := Lib.hid hm
  clear H hm
  have g0 : (what == (0 : Int)) = false := by rw [beq_eq_false_iff_ne]; omega
  have g1 : (what == (1 : Int)) = false := by rw [beq_eq_false_iff_ne]; omega
  have g2 : (what == (2 : Int)) = false := by rw [beq_eq_false_iff_ne]; omega
  have g3 : (what == (3 : Int)) = false := by rw [beq_eq_false_iff_ne]; omega
  have g4 : (what == (4 : Int)) = false := by rw [beq_eq_false_iff_ne]; omega
  have g5 : (what == (5 : Int)) = false := by rw [beq_eq_false_iff_ne]; omega
  have g6 : (what == (6 : Int)) = false := by rw [beq_eq_false_iff_ne]; omega
  have g7 : (what == (7 : Int)) = false := by rw [beq_eq_false_iff_ne]; omega
  have g8 : (what == (8 : Int)) = false := by rw [beq_eq_false_iff_ne]; omega
  conv => arg 2; whnf
  go_wp2_with fail
  apply Hm.out
  exact ⟨cb, v, rfl, rfl, Lib.hid ⟨HG1.out, HS1.out⟩⟩

set_option maxHeartbeats 12800000 in
set_option maxRecDepth 1000000 in
theorem sw_all {w V : World} {cb rb A : Nat} {n me v vn what ahead frm pl pb pc : Int} {es : List Ent} {qa : Option Addr} {da : Nat} {K : Act → World → Prop} {Q : Exit → Act → World → Prop} {x0 x1 x2 x3 x4 x5 x6 x8 x10 x11 x15 x16 x17 x18 x19 x20 x21 x22 x23 x24 x25 x26 x27 x28 x29 x30 x31 x32 x33 x34 x35 x36 x37 x38 x39 x40 x41 x42 x43 x44 x45 x46 x47 x48 x49 x50 x51 x52 x53 x54 x55 x56 x57 x58 x59 x60 x61 x62 x63 x64 x65 x66 x67 x68 x69 x70 x71 x72 x73 x74 x75 x76 x77 x78 x79 x80 x81 x82 x83 x84 x85 x86 x87 x88 x89 x90 x92 x93 x94 x95 x96 x97 x98 x99 x100 x101 x102 x103 x104 x105 x106 x107 x108 x109 x110 x111 x112 x113 x114 x115 x116 x117 x118 x119 x120 x121 x122 x123 x124 x125 x126 x127 x128 x129 x130 x131 x132 x133 x134 x135 x136 x137 x138 x139 x140 x141 x142 x143 x144 x145 x146 x147 x148 x149 x150 x151 x152 x153 x154 x155 x156 x157 x158 x159 x160 x161 x162 x163 x164 x165 x166 x167 x168 x169 x170 x171 x172 x173 x174 x175 x176 x177 x178 x179 x180 x181 x182 x183 x184 x185 x186 x187 x188 x189 x190 x191 x192 x193 x194 x195 x196 x197 x198 x199 x200 x201 x202 x203 x204 x205 x206 x207 x208 x209 x210 x211 x212 x213 x214 x215 x216 x217 x218 x219 x220 x221 x222 x223 x224 x225 x226 x227 x228 x229 x230 x231 x232 x233 x234 x235 x236 x237 x238 x239 x240 x241 x242 x243 x244 x245 x246 x247 x248 x249 x250 x251 x252 x253 x254 x255 x256 x257 x258 x259 x260 x261 x262 x263 x264 x265 x266 x267 x268 x269 x270 x271 x272 : Value}
    (H : SwH w V cb rb A n me v vn what ahead frm pl pb pc es qa da) 
    (hm : ∀ (u7 u14 u15 u16 u17 u18 u19 u20 u21 u22 u23 u24 u25 u92 u93 u94 u95 u96 u97 u98 u99 u100 u101 u102 u103 u104 u105 u106 u107 u108 u109 u110 u111 u112 u113 u114 u115 u116 u117 u118 u119 u120 u121 u122 u123 u124 u125 u126 u127 u128 u129 u130 u131 u132 u133 u134 u135 u136 u137 u138 u139 u140 u141 u142 u143 u144 u145 u146 u147 u148 u149 u150 u151 u152 u153 u154 u155 u156 u157 u158 u159 u160 u161 u162 u163 u164 u165 u166 u167 u168 u169 u170 u171 u172 u173 u174 u175 u176 u177 u178 u179 u180 u181 u182 u183 u184 u185 u186 u187 u188 u189 u190 u191 u192 u193 u194 u195 u196 u197 u198 u199 u200 u201 u202 u203 u204 u205 u206 u207 u208 u209 u210 u211 u212 : Value) (w' : World), SwRel w rb A n me what ahead frm pl pb pc es qa da u7 u14 w' → K ⟨#[x0, x1, x2, x3, x4, x5, x6, u7, x8, .pointer (some ⟨rb, 0, none⟩), x10, x11, .pointer (some ⟨A, 0, none⟩), .int .u64 vn, u14, u15, u16, u17, u18, u19, u20, u21, u22, u23, u24, u25, x26, x27, x28, x29, x30, x31, x32, x33, x34, x35, x36, x37, x38, x39, x40, x41, x42, x43, x44, x45, x46, x47, x48, x49, x50, x51, x52, x53, x54, x55, x56, x57, x58, x59, x60, x61, x62, x63, x64, x65, x66, x67, x68, x69, x70, x71, x72, x73, x74, x75, x76, x77, x78, x79, x80, x81, x82, x83, x84, x85, x86, x87, x88, x89, x90, .int .i64 what, u92, u93, u94, u95, u96, u97, u98, u99, u100, u101, u102, u103, u104, u105, u106, u107, u108, u109, u110, u111, u112, u113, u114, u115, u116, u117, u118, u119, u120, u121, u122, u123, u124, u125, u126, u127, u128, u129, u130, u131, u132, u133, u134, u135, u136, u137, u138, u139, u140, u141, u142, u143, u144, u145, u146, u147, u148, u149, u150, u151, u152, u153, u154, u155, u156, u157, u158, u159, u160, u161, u162, u163, u164, u165, u166, u167, u168, u169, u170, u171, u172, u173, u174, u175, u176, u177, u178, u179, u180, u181, u182, u183, u184, u185, u186, u187, u188, u189, u190, u191, u192, u193, u194, u195, u196, u197, u198, u199, u200, u201, u202, u203, u204, u205, u206, u207, u208, u209, u210, u211, u212, x213, x214, x215, x216, x217, x218, x219, x220, x221, x222, x223, x224, x225, x226, x227, x228, x229, x230, x231, x232, x233, x234, x235, x236, x237, x238, x239, x240, x241, x242, x243, x244, x245, x246, x247, x248, x249, x250, x251, x252, x253, x254, x255, x256, x257, x258, x259, x260, x261, x262, x263, x264, x265, x266, x267, x268, x269, x270, x271, x272], []⟩ w') :
    Code.wp Try.prog swText (Exit.then K Q) ⟨#[x0, x1, x2, x3, x4, x5, x6, .pointer (some ⟨cb, 0, none⟩), x8, .pointer (some ⟨rb, 0, none⟩), x10, x11, .pointer (some ⟨A, 0, none⟩), .int .u64 vn, .bool true, x15, x16, x17, x18, x19, x20, x21, x22, x23, x24, x25, x26, x27, x28, x29, x30, x31, x32, x33, x34, x35, x36, x37, x38, x39, x40, x41, x42, x43, x44, x45, x46, x47, x48, x49, x50, x51, x52, x53, x54, x55, x56, x57, x58, x59, x60, x61, x62, x63, x64, x65, x66, x67, x68, x69, x70, x71, x72, x73, x74, x75, x76, x77, x78, x79, x80, x81, x82, x83, x84, x85, x86, x87, x88, x89, x90, .int .i64 what, x92, x93, x94, x95, x96, x97, x98, x99, x100, x101, x102, x103, x104, x105, x106, x107, x108, x109, x110, x111, x112, x113, x114, x115, x116, x117, x118, x119, x120, x121, x122, x123, x124, x125, x126, x127, x128, x129, x130, x131, x132, x133, x134, x135, x136, x137, x138, x139, x140, x141, x142, x143, x144, x145, x146, x147, x148, x149, x150, x151, x152, x153, x154, x155, x156, x157, x158, x159, x160, x161, x162, x163, x164, x165, x166, x167, x168, x169, x170, x171, x172, x173, x174, x175, x176, x177, x178, x179, x180, x181, x182, x183, x184, x185, x186, x187, x188, x189, x190, x191, x192, x193, x194, x195, x196, x197, x198, x199, x200, x201, x202, x203, x204, x205, x206, x207, x208, x209, x210, x211, x212, x213, x214, x215, x216, x217, x218, x219, x220, x221, x222, x223, x224, x225, x226, x227, x228, x229, x230, x231, x232, x233, x234, x235, x236, x237, x238, x239, x240, x241, x242, x243, x244, x245, x246, x247, x248, x249, x250, x251, x252, x253, x254, x255, x256, x257, x258, x259, x260, x261, x262, x263, x264, x265, x266, x267, x268, x269, x270, x271, x272], []⟩ V := by
  rcases (show what = 0 ∨ (1 ≤ what ∧ what ≤ 3) ∨ (4 ≤ what ∧ what ≤ 6) ∨ what = 7 ∨ what = 8 ∨ (what < 0 ∨ 8 < what) by omega) with h | h | h | h | h | h
  · exact sw0 H h hm
  · exact sw1 H h hm
  · exact sw4 H h hm
  · exact sw7 H h hm
  · exact sw8 H h hm
  · exact sw9 H h hm
end Go.Proofs.Ytgmekodfkhihiaa
