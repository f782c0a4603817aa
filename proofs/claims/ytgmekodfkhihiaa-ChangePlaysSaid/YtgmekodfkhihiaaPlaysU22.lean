/-
  What follows ChangePlays' switch. (Printed by wip/gen_plays22u.py.)
-/
import Derived.Test.YtgmekodfkhihiaaPlaysV22
namespace Go.Proofs.Ytgmekodfkhihiaa
open Go.RowKit Go.Maps
set_option linter.unusedSimpArgs false
set_option linter.unusedVariables false

noncomputable def restText : Code := ((Try.f5.body.bind (behind 2)).getD .skip)
set_option maxHeartbeats 12800000 in
set_option maxRecDepth 1000000 in
theorem rest_all {w V : World} {cb rb A : Nat} {n me v vn what ahead frm : Int} {P0 : Pk} {qa : Option Addr} {da : Nat} {Q : Exit → Act → World → Prop} {x0 x1 x2 x3 x4 x5 x6 x8 x10 x11 x15 x16 x17 x18 x19 x20 x21 x22 x23 x24 x25 x26 x27 x28 x29 x30 x31 x32 x33 x34 x35 x36 x37 x38 x39 x40 x41 x42 x43 x44 x45 x46 x47 x48 x49 x50 x51 x52 x53 x54 x55 x56 x57 x58 x59 x60 x61 x62 x63 x64 x65 x66 x67 x68 x69 x70 x71 x72 x73 x74 x75 x76 x77 x78 x79 x80 x81 x82 x83 x84 x85 x86 x87 x88 x89 x90 x91 x92 x93 x94 x95 x96 x97 x98 x99 x100 x101 x102 x103 x104 x105 x106 x107 x108 x109 x110 x111 x112 x113 x114 x115 x116 x117 x118 x119 x120 x121 x122 x123 x124 x125 x126 x127 x128 x129 x130 x131 x132 x133 x134 x135 x136 x137 x138 x139 x140 x141 x142 x143 x144 x145 x146 x147 x148 x149 x150 x151 x152 x153 x154 x155 x156 x157 x158 x159 x160 x161 x162 x163 x164 x165 x166 x167 x168 x169 x170 x171 x172 x173 x174 x175 x176 x177 x178 x179 x180 x181 x182 x183 x184 x185 x186 x187 x188 x189 x190 x191 x192 x193 x194 x195 x196 x197 x198 x199 x200 x201 x202 x203 x204 x205 x206 x207 x208 x209 x210 x211 x212 x213 x214 x215 x216 x217 x218 x219 x220 x221 x222 x223 x224 x225 x226 x227 x228 x229 x230 x231 x232 x233 x234 x235 x236 x237 x238 x239 x240 x241 x242 x243 x244 x245 x246 x247 x248 x249 x250 x251 x252 x253 x254 x255 x256 x257 x258 x259 x260 x261 x262 x263 x264 x265 x266 x267 x268 x269 x270 x271 x272 : Value}
    (HG : Gd w.heap.size V (fun j => j < w.heap.size) (fun j => j = A) cb rb n me v) (HS : Sd w V (fun j => j < w.heap.size) (fun j => j = A) A what ahead frm P0 qa da) (Hk : NumOk n me) (Hvn : 0 ≤ vn ∧ vn < 18446744073709551616) (Hfrm : frm ≤ 9223372036854775807)
    (hQ : ∀ ch (a : Act) i v w, Q (.panic ch) (a.put (some i) v) w → Q (.panic ch) a w)
    (hm : ∀ (u14 u26 u27 u28 u29 u30 u213 u214 u215 u216 u217 u218 u219 u220 u221 u222 u223 u224 u225 u226 u227 u228 u229 u230 u231 u232 u233 u234 u235 u236 u237 u238 u239 u240 u241 u242 u243 u244 u245 u246 u247 u248 u249 u250 u251 u252 u253 u254 u255 u256 u257 u258 u259 u260 u261 u262 u263 u264 u265 u266 u267 u268 u269 u270 u271 : Value) (w' : World), Gd w.heap.size w' (fun j => j < w.heap.size) (fun _ => False) cb rb n me v ∧ Below w.heap.size w w' → Q .normal ⟨#[x0, x1, x2, x3, x4, x5, x6, .pointer (some ⟨cb, 0, none⟩), x8, .pointer (some ⟨rb, 0, none⟩), x10, x11, .pointer (some ⟨A, 0, none⟩), .int .u64 vn, u14, x15, x16, x17, x18, x19, x20, x21, x22, x23, x24, x25, u26, u27, u28, u29, u30, x31, x32, x33, x34, x35, x36, x37, x38, x39, x40, x41, x42, x43, x44, x45, x46, x47, x48, x49, x50, x51, x52, x53, x54, x55, x56, x57, x58, x59, x60, x61, x62, x63, x64, x65, x66, x67, x68, x69, x70, x71, x72, x73, x74, x75, x76, x77, x78, x79, x80, x81, x82, x83, x84, x85, x86, x87, x88, x89, x90, x91, x92, x93, x94, x95, x96, x97, x98, x99, x100, x101, x102, x103, x104, x105, x106, x107, x108, x109, x110, x111, x112, x113, x114, x115, x116, x117, x118, x119, x120, x121, x122, x123, x124, x125, x126, x127, x128, x129, x130, x131, x132, x133, x134, x135, x136, x137, x138, x139, x140, x141, x142, x143, x144, x145, x146, x147, x148, x149, x150, x151, x152, x153, x154, x155, x156, x157, x158, x159, x160, x161, x162, x163, x164, x165, x166, x167, x168, x169, x170, x171, x172, x173, x174, x175, x176, x177, x178, x179, x180, x181, x182, x183, x184, x185, x186, x187, x188, x189, x190, x191, x192, x193, x194, x195, x196, x197, x198, x199, x200, x201, x202, x203, x204, x205, x206, x207, x208, x209, x210, x211, x212, u213, u214, u215, u216, u217, u218, u219, u220, u221, u222, u223, u224, u225, u226, u227, u228, u229, u230, u231, u232, u233, u234, u235, u236, u237, u238, u239, u240, u241, u242, u243, u244, u245, u246, u247, u248, u249, u250, u251, u252, u253, u254, u255, u256, u257, u258, u259, u260, u261, u262, u263, u264, u265, u266, u267, u268, u269, u270, u271, x272], []⟩ w') :
    Code.wp Try.prog restText Q ⟨#[x0, x1, x2, x3, x4, x5, x6, .pointer (some ⟨cb, 0, none⟩), x8, .pointer (some ⟨rb, 0, none⟩), x10, x11, .pointer (some ⟨A, 0, none⟩), .int .u64 vn, .bool true, x15, x16, x17, x18, x19, x20, x21, x22, x23, x24, x25, x26, x27, x28, x29, x30, x31, x32, x33, x34, x35, x36, x37, x38, x39, x40, x41, x42, x43, x44, x45, x46, x47, x48, x49, x50, x51, x52, x53, x54, x55, x56, x57, x58, x59, x60, x61, x62, x63, x64, x65, x66, x67, x68, x69, x70, x71, x72, x73, x74, x75, x76, x77, x78, x79, x80, x81, x82, x83, x84, x85, x86, x87, x88, x89, x90, x91, x92, x93, x94, x95, x96, x97, x98, x99, x100, x101, x102, x103, x104, x105, x106, x107, x108, x109, x110, x111, x112, x113, x114, x115, x116, x117, x118, x119, x120, x121, x122, x123, x124, x125, x126, x127, x128, x129, x130, x131, x132, x133, x134, x135, x136, x137, x138, x139, x140, x141, x142, x143, x144, x145, x146, x147, x148, x149, x150, x151, x152, x153, x154, x155, x156, x157, x158, x159, x160, x161, x162, x163, x164, x165, x166, x167, x168, x169, x170, x171, x172, x173, x174, x175, x176, x177, x178, x179, x180, x181, x182, x183, x184, x185, x186, x187, x188, x189, x190, x191, x192, x193, x194, x195, x196, x197, x198, x199, x200, x201, x202, x203, x204, x205, x206, x207, x208, x209, x210, x211, x212, x213, x214, x215, x216, x217, x218, x219, x220, x221, x222, x223, x224, x225, x226, x227, x228, x229, x230, x231, x232, x233, x234, x235, x236, x237, x238, x239, x240, x241, x242, x243, x244, x245, x246, x247, x248, x249, x250, x251, x252, x253, x254, x255, x256, x257, x258, x259, x260, x261, x262, x263, x264, x265, x266, x267, x268, x269, x270, x271, x272], []⟩ V := by
  have HG1 := Lib.hid HG
  have HS1 := Lib.hid HS
  have Hk := Lib.hid Hk
  obtain ⟨PP, r, h64, q1, q2⟩ := HG.best Hk.out
  have Hq1 := Lib.hid q1
  have Hq2 := Lib.hid q2
  have Hm := Lib.hid hm
  obtain ⟨pr, hpr⟩ : ∃ x, (if frm < 1 then (0 : Int) else vn % frm) = x := ⟨_, rfl⟩
  have Hp1 := Lib.hid (fun W : World => (hpr ▸ ch_PrimaryA (w := W) Hfrm Hvn.1 Hvn.2 : Calls Try.prog 25 #[.int .u64 vn, .int .i64 frm] W fun x w' => x = .returned (.int .i64 pr) ∧ W = w'))
  have Hp2 := Lib.hid (fun W : World => (hpr ▸ rf_PrimaryA (w := W) Hfrm Hvn.1 Hvn.2 : Calls Try.prog 26 #[.int .u64 vn, .int .i64 frm] W fun x w' => x = .returned (.int .i64 pr) ∧ W = w'))
  clear HG HS q1 q2 hm hpr
  conv => arg 2; whnf
  go_wp2_with fail
  refine Hq1.out.mono ?_
  rintro _ w3 ⟨p', d', rfl, hown, hb⟩
  have HO3 := Lib.hid hown
  have HB3 := Lib.hid hb
  clear hown hb Hq1
  go_wp2_with fail
  have hbp := (Below.refl w3.heap.size w3).alloc (Nat.le_refl _) (.cells #[.int .u64 PP.l, .int .u64 PP.b, .int .u64 PP.c, .slice p' PP.es.length d'] 35)
  have HB4 := Lib.hid (HB3.out.trans (hbp.mono HB3.out.size))
  have HK4 := Lib.hid (Blk.new w3 35 #[.int .u64 PP.l, .int .u64 PP.b, .int .u64 PP.c, .slice p' PP.es.length d'])
  have HO4 := Lib.hid (HO3.out.below hbp)
  have Hz3 := Lib.hid (show V.heap.size ≤ w3.heap.size from HB3.out.size)
  clear hbp HB3 HO3
  generalize w3.alloc (.cells #[.int .u64 PP.l, .int .u64 PP.b, .int .u64 PP.c, .slice p' PP.es.length d'] 35) = W4 at *
  generalize w3.heap.size = pkb at *
  refine (Hq2.out W4 HB4.out).mono ?_
  rintro _ w5 ⟨p2, d2, rfl, hrd, hb⟩
  have HB5 := Lib.hid (HB4.out.trans (hb.mono HB4.out.size))
  have HK5 := Lib.hid (HK4.out.below hb)
  have HO5 := Lib.hid (HO4.out.below hb)
  have HR5 := Lib.hid hrd
  clear hrd hb HB4 HK4 HO4 Hq2
  go_upto_region 46 with fail
  have hbp := (Below.refl w5.heap.size w5).alloc (Nat.le_refl _) (.cells #[.int .u64 PP.l, .int .u64 PP.b, .int .u64 PP.c, .slice p2 PP.es.length d2] 45)
  have HB6 := Lib.hid (HB5.out.trans (hbp.mono HB5.out.size))
  have HK6 := Lib.hid (HK5.out.below hbp)
  have HQ6 := Lib.hid (Blk.new w5 45 #[.int .u64 PP.l, .int .u64 PP.b, .int .u64 PP.c, .slice p2 PP.es.length d2])
  have HO6 := Lib.hid (HO5.out.below hbp)
  have HR6 := Lib.hid (HR5.out.below hbp)
  clear hbp HB5 HK5 HO5 HR5
  generalize w5.alloc (.cells #[.int .u64 PP.l, .int .u64 PP.b, .int .u64 PP.c, .slice p2 PP.es.length d2] 45) = W6 at *
  generalize w5.heap.size = qkb at *
  obtain ⟨m, hmm⟩ : ∃ x, x = PP.es.length := ⟨_, rfl⟩
  have HO7 := Lib.hid (show EntsOwn W6 V.heap.size (.slice p' m d') PP.es from by rw [hmm]; exact HO6.out)
  have HR7 := Lib.hid (show EntsRd W6 (fun j => j < w.heap.size) (.slice p2 m d2) PP.es from by rw [hmm]; exact HR6.out)
  have HK7 := Lib.hid (show Blk W6 pkb 35 #[.int .u64 PP.l, .int .u64 PP.b, .int .u64 PP.c, .slice p' m d'] from by rw [hmm]; exact HK6.out)
  have HQ7 := Lib.hid (show Blk W6 qkb 45 #[.int .u64 PP.l, .int .u64 PP.b, .int .u64 PP.c, .slice p2 m d2] from by rw [hmm]; exact HQ6.out)
  rw [← hmm]
  have hm64 : m ≤ 64 := by omega
  have Hmm := Lib.hid hmm
  clear HO6 HR6 HK6 HQ6 hmm
  have HG6 := Lib.hid (HG1.out.below HB6.out)
  have hS : Holds [(pkb, 0, .int .u64 PP.l), (pkb, 1, .int .u64 PP.b), (pkb, 2, .int .u64 PP.c), (pkb, 3, .slice p' m d'), (qkb, 0, .int .u64 PP.l), (qkb, 1, .int .u64 PP.b), (qkb, 2, .int .u64 PP.c), (qkb, 3, .slice p2 m d2), (rb, 2, .int .u64 v), (A, 2, .int .i64 frm)] W6.drew := ⟨HK7.out.cell 0, HK7.out.cell 1, HK7.out.cell 2, HK7.out.cell 3, HQ7.out.cell 0, HQ7.out.cell 1, HQ7.out.cell 2, HQ7.out.cell 3, HG6.out.view.1, (HS1.out.below HB6.out).kA.cell 2, trivial⟩
  have HB7 := Lib.hid (HB6.out.trans ((Below.refl W6.heap.size W6).drew.mono HB6.out.size))
  have hdr := (Below.refl W6.heap.size W6).drew
  have HO8 := Lib.hid (HO7.out.below hdr)
  have HR8 := Lib.hid (HR7.out.below hdr)
  have HK8 := Lib.hid (HK7.out.below hdr)
  have HG8 := Lib.hid (HG6.out.below hdr)
  clear hdr HO7 HR7 HK7 HQ7 HB6 HG6
  refine begin_D (T := Hold0) [] (by kernel_rfl) hS (fun _ => trivial) ?_
  generalize W6.drew = w7 at *
  refine take_S (v := ?v0a) 0 rfl (by kernel_rfl) (by kernel_rfl) (by kernel_rfl) (by kernel_rfl) (fun _ _ _ h => hQ _ _ _ _ _ h) hS (fun _ => trivial) rfl (fun w' hq => ?h0a) ?_
  case h0a => obtain ⟨q0, q1, q2, q3, q4, q5, q6, q7, q8, q9, -⟩ := hq; change _ = some _ at q0; change _ = some _ at q1; change _ = some _ at q2; change _ = some _ at q3; change _ = some _ at q4; change _ = some _ at q5; change _ = some _ at q6; change _ = some _ at q7; change _ = some _ at q8; change _ = some _ at q9; go_simp; try with_reducible rfl
  try simp only [Act.put, List.setIfInBounds_toArray, List.set_cons_zero, List.set_cons_succ, List.getElem_toArray, List.getElem_cons_succ, List.getElem_cons_zero]
  refine take_S (v := ?v1a) 1 rfl (by kernel_rfl) (by kernel_rfl) (by kernel_rfl) (by kernel_rfl) (fun _ _ _ h => hQ _ _ _ _ _ h) hS (fun _ => trivial) rfl (fun w' hq => ?h1a) ?_
  case h1a => obtain ⟨q0, q1, q2, q3, q4, q5, q6, q7, q8, q9, -⟩ := hq; change _ = some _ at q0; change _ = some _ at q1; change _ = some _ at q2; change _ = some _ at q3; change _ = some _ at q4; change _ = some _ at q5; change _ = some _ at q6; change _ = some _ at q7; change _ = some _ at q8; change _ = some _ at q9; go_simp; try with_reducible rfl
  try simp only [Act.put, List.setIfInBounds_toArray, List.set_cons_zero, List.set_cons_succ, List.getElem_toArray, List.getElem_cons_succ, List.getElem_cons_zero]
  refine take_S (v := ?v2a) 2 rfl (by kernel_rfl) (by kernel_rfl) (by kernel_rfl) (by kernel_rfl) (fun _ _ _ h => hQ _ _ _ _ _ h) hS (fun _ => trivial) rfl (fun w' hq => ?h2a) ?_
  case h2a => obtain ⟨q0, q1, q2, q3, q4, q5, q6, q7, q8, q9, -⟩ := hq; change _ = some _ at q0; change _ = some _ at q1; change _ = some _ at q2; change _ = some _ at q3; change _ = some _ at q4; change _ = some _ at q5; change _ = some _ at q6; change _ = some _ at q7; change _ = some _ at q8; change _ = some _ at q9; go_simp; try with_reducible rfl
  try simp only [Act.put, List.setIfInBounds_toArray, List.set_cons_zero, List.set_cons_succ, List.getElem_toArray, List.getElem_cons_succ, List.getElem_cons_zero]
  refine take_S (v := ?v3a) 3 rfl (by kernel_rfl) (by kernel_rfl) (by kernel_rfl) (by kernel_rfl) (fun _ _ _ h => hQ _ _ _ _ _ h) hS (fun _ => trivial) rfl (fun w' hq => ?h3a) ?_
  case h3a => obtain ⟨q0, q1, q2, q3, q4, q5, q6, q7, q8, q9, -⟩ := hq; change _ = some _ at q0; change _ = some _ at q1; change _ = some _ at q2; change _ = some _ at q3; change _ = some _ at q4; change _ = some _ at q5; change _ = some _ at q6; change _ = some _ at q7; change _ = some _ at q8; change _ = some _ at q9; go_simp; try with_reducible rfl
  try simp only [Act.put, List.setIfInBounds_toArray, List.set_cons_zero, List.set_cons_succ, List.getElem_toArray, List.getElem_cons_succ, List.getElem_cons_zero]
  refine one_D 4 rfl (by kernel_rfl) (fun KQ hK => ?_)
  go_simp
  refine (rf_PSame (es := PP.es) (EntsOwn.rd HO8.out) HR8.out (by omega)).mono ?_
  rintro x w8 ⟨rfl, hb⟩
  have hS8 : Holds [(pkb, 0, .int .u64 PP.l), (pkb, 1, .int .u64 PP.b), (pkb, 2, .int .u64 PP.c), (pkb, 3, .slice p' m d'), (qkb, 0, .int .u64 PP.l), (qkb, 1, .int .u64 PP.b), (qkb, 2, .int .u64 PP.c), (qkb, 3, .slice p2 m d2), (rb, 2, .int .u64 v), (A, 2, .int .i64 frm)] w8 := Holds.below hS hb
  have HB8 := Lib.hid (HB7.out.trans (hb.mono HB7.out.size))
  have HO9 := Lib.hid (HO8.out.below hb)
  have HK9 := Lib.hid (HK8.out.below hb)
  have HG9 := Lib.hid (HG8.out.below hb)
  refine hK.out _ _ hS8 (fun _ => trivial) ?_
  clear hK hb hS HB7 HO8 HK8 HG8 HR8
  refine take_S (v := ?v5b) 5 rfl (by kernel_rfl) (by kernel_rfl) (by kernel_rfl) (by kernel_rfl) (fun _ _ _ h => hQ _ _ _ _ _ h) hS8 (fun _ => trivial) rfl (fun w' hq => ?h5b) ?_
  case h5b => obtain ⟨q0, q1, q2, q3, q4, q5, q6, q7, q8, q9, -⟩ := hq; change _ = some _ at q0; change _ = some _ at q1; change _ = some _ at q2; change _ = some _ at q3; change _ = some _ at q4; change _ = some _ at q5; change _ = some _ at q6; change _ = some _ at q7; change _ = some _ at q8; change _ = some _ at q9; go_simp; try with_reducible rfl
  try simp only [Act.put, List.setIfInBounds_toArray, List.set_cons_zero, List.set_cons_succ, List.getElem_toArray, List.getElem_cons_succ, List.getElem_cons_zero]
  refine take_S (v := ?v6b) 6 rfl (by kernel_rfl) (by kernel_rfl) (by kernel_rfl) (by kernel_rfl) (fun _ _ _ h => hQ _ _ _ _ _ h) hS8 (fun _ => trivial) rfl (fun w' hq => ?h6b) ?_
  case h6b => obtain ⟨q0, q1, q2, q3, q4, q5, q6, q7, q8, q9, -⟩ := hq; change _ = some _ at q0; change _ = some _ at q1; change _ = some _ at q2; change _ = some _ at q3; change _ = some _ at q4; change _ = some _ at q5; change _ = some _ at q6; change _ = some _ at q7; change _ = some _ at q8; change _ = some _ at q9; go_simp; try with_reducible rfl
  try simp only [Act.put, List.setIfInBounds_toArray, List.set_cons_zero, List.set_cons_succ, List.getElem_toArray, List.getElem_cons_succ, List.getElem_cons_zero]
  refine take_S (v := ?v7b) 7 rfl (by kernel_rfl) (by kernel_rfl) (by kernel_rfl) (by kernel_rfl) (fun _ _ _ h => hQ _ _ _ _ _ h) hS8 (fun _ => trivial) rfl (fun w' hq => ?h7b) ?_
  case h7b => obtain ⟨q0, q1, q2, q3, q4, q5, q6, q7, q8, q9, -⟩ := hq; change _ = some _ at q0; change _ = some _ at q1; change _ = some _ at q2; change _ = some _ at q3; change _ = some _ at q4; change _ = some _ at q5; change _ = some _ at q6; change _ = some _ at q7; change _ = some _ at q8; change _ = some _ at q9; go_simp; try with_reducible rfl
  try simp only [Act.put, List.setIfInBounds_toArray, List.set_cons_zero, List.set_cons_succ, List.getElem_toArray, List.getElem_cons_succ, List.getElem_cons_zero]
  refine take_S (v := ?v8b) 8 rfl (by kernel_rfl) (by kernel_rfl) (by kernel_rfl) (by kernel_rfl) (fun _ _ _ h => hQ _ _ _ _ _ h) hS8 (fun _ => trivial) rfl (fun w' hq => ?h8b) ?_
  case h8b => obtain ⟨q0, q1, q2, q3, q4, q5, q6, q7, q8, q9, -⟩ := hq; change _ = some _ at q0; change _ = some _ at q1; change _ = some _ at q2; change _ = some _ at q3; change _ = some _ at q4; change _ = some _ at q5; change _ = some _ at q6; change _ = some _ at q7; change _ = some _ at q8; change _ = some _ at q9; go_simp; try with_reducible rfl
  try simp only [Act.put, List.setIfInBounds_toArray, List.set_cons_zero, List.set_cons_succ, List.getElem_toArray, List.getElem_cons_succ, List.getElem_cons_zero]
  refine take_S (v := ?v9b) 9 rfl (by kernel_rfl) (by kernel_rfl) (by kernel_rfl) (by kernel_rfl) (fun _ _ _ h => hQ _ _ _ _ _ h) hS8 (fun _ => trivial) rfl (fun w' hq => ?h9b) ?_
  case h9b => obtain ⟨q0, q1, q2, q3, q4, q5, q6, q7, q8, q9, -⟩ := hq; change _ = some _ at q0; change _ = some _ at q1; change _ = some _ at q2; change _ = some _ at q3; change _ = some _ at q4; change _ = some _ at q5; change _ = some _ at q6; change _ = some _ at q7; change _ = some _ at q8; change _ = some _ at q9; go_simp; try with_reducible rfl
  try simp only [Act.put, List.setIfInBounds_toArray, List.set_cons_zero, List.set_cons_succ, List.getElem_toArray, List.getElem_cons_succ, List.getElem_cons_zero]
  refine take_S (v := ?v10b) 10 rfl (by kernel_rfl) (by kernel_rfl) (by kernel_rfl) (by kernel_rfl) (fun _ _ _ h => hQ _ _ _ _ _ h) hS8 (fun _ => trivial) rfl (fun w' hq => ?h10b) ?_
  case h10b => obtain ⟨q0, q1, q2, q3, q4, q5, q6, q7, q8, q9, -⟩ := hq; change _ = some _ at q0; change _ = some _ at q1; change _ = some _ at q2; change _ = some _ at q3; change _ = some _ at q4; change _ = some _ at q5; change _ = some _ at q6; change _ = some _ at q7; change _ = some _ at q8; change _ = some _ at q9; go_simp; try with_reducible rfl
  try simp only [Act.put, List.setIfInBounds_toArray, List.set_cons_zero, List.set_cons_succ, List.getElem_toArray, List.getElem_cons_succ, List.getElem_cons_zero]
  refine take_S (v := ?v11b) 11 rfl (by kernel_rfl) (by kernel_rfl) (by kernel_rfl) (by kernel_rfl) (fun _ _ _ h => hQ _ _ _ _ _ h) hS8 (fun _ => trivial) rfl (fun w' hq => ?h11b) ?_
  case h11b => obtain ⟨q0, q1, q2, q3, q4, q5, q6, q7, q8, q9, -⟩ := hq; change _ = some _ at q0; change _ = some _ at q1; change _ = some _ at q2; change _ = some _ at q3; change _ = some _ at q4; change _ = some _ at q5; change _ = some _ at q6; change _ = some _ at q7; change _ = some _ at q8; change _ = some _ at q9; go_simp; try with_reducible rfl
  try simp only [Act.put, List.setIfInBounds_toArray, List.set_cons_zero, List.set_cons_succ, List.getElem_toArray, List.getElem_cons_succ, List.getElem_cons_zero]
  refine take_S (v := ?v12b) 12 rfl (by kernel_rfl) (by kernel_rfl) (by kernel_rfl) (by kernel_rfl) (fun _ _ _ h => hQ _ _ _ _ _ h) hS8 (fun _ => trivial) rfl (fun w' hq => ?h12b) ?_
  case h12b => obtain ⟨q0, q1, q2, q3, q4, q5, q6, q7, q8, q9, -⟩ := hq; change _ = some _ at q0; change _ = some _ at q1; change _ = some _ at q2; change _ = some _ at q3; change _ = some _ at q4; change _ = some _ at q5; change _ = some _ at q6; change _ = some _ at q7; change _ = some _ at q8; change _ = some _ at q9; go_simp; try with_reducible rfl
  try simp only [Act.put, List.setIfInBounds_toArray, List.set_cons_zero, List.set_cons_succ, List.getElem_toArray, List.getElem_cons_succ, List.getElem_cons_zero]
  refine take_S (v := ?v14b) 14 rfl (by kernel_rfl) (by kernel_rfl) (by kernel_rfl) (by kernel_rfl) (fun _ _ _ h => hQ _ _ _ _ _ h) hS8 (fun _ => trivial) rfl (fun w' hq => ?h14b) ?_
  case h14b => obtain ⟨q0, q1, q2, q3, q4, q5, q6, q7, q8, q9, -⟩ := hq; change _ = some _ at q0; change _ = some _ at q1; change _ = some _ at q2; change _ = some _ at q3; change _ = some _ at q4; change _ = some _ at q5; change _ = some _ at q6; change _ = some _ at q7; change _ = some _ at q8; change _ = some _ at q9; go_simp; try with_reducible rfl
  try simp only [Act.put, List.setIfInBounds_toArray, List.set_cons_zero, List.set_cons_succ, List.getElem_toArray, List.getElem_cons_succ, List.getElem_cons_zero]
  refine take_S (v := ?v15b) 15 rfl (by kernel_rfl) (by kernel_rfl) (by kernel_rfl) (by kernel_rfl) (fun _ _ _ h => hQ _ _ _ _ _ h) hS8 (fun _ => trivial) rfl (fun w' hq => ?h15b) ?_
  case h15b => obtain ⟨q0, q1, q2, q3, q4, q5, q6, q7, q8, q9, -⟩ := hq; change _ = some _ at q0; change _ = some _ at q1; change _ = some _ at q2; change _ = some _ at q3; change _ = some _ at q4; change _ = some _ at q5; change _ = some _ at q6; change _ = some _ at q7; change _ = some _ at q8; change _ = some _ at q9; go_simp; try with_reducible rfl
  try simp only [Act.put, List.setIfInBounds_toArray, List.set_cons_zero, List.set_cons_succ, List.getElem_toArray, List.getElem_cons_succ, List.getElem_cons_zero]
  refine take_S (v := ?v16b) 16 rfl (by kernel_rfl) (by kernel_rfl) (by kernel_rfl) (by kernel_rfl) (fun _ _ _ h => hQ _ _ _ _ _ h) hS8 (fun _ => trivial) rfl (fun w' hq => ?h16b) ?_
  case h16b => obtain ⟨q0, q1, q2, q3, q4, q5, q6, q7, q8, q9, -⟩ := hq; change _ = some _ at q0; change _ = some _ at q1; change _ = some _ at q2; change _ = some _ at q3; change _ = some _ at q4; change _ = some _ at q5; change _ = some _ at q6; change _ = some _ at q7; change _ = some _ at q8; change _ = some _ at q9; go_simp; try with_reducible rfl
  try simp only [Act.put, List.setIfInBounds_toArray, List.set_cons_zero, List.set_cons_succ, List.getElem_toArray, List.getElem_cons_succ, List.getElem_cons_zero]
  refine take_S (v := ?v17b) 17 rfl (by kernel_rfl) (by kernel_rfl) (by kernel_rfl) (by kernel_rfl) (fun _ _ _ h => hQ _ _ _ _ _ h) hS8 (fun _ => trivial) rfl (fun w' hq => ?h17b) ?_
  case h17b => obtain ⟨q0, q1, q2, q3, q4, q5, q6, q7, q8, q9, -⟩ := hq; change _ = some _ at q0; change _ = some _ at q1; change _ = some _ at q2; change _ = some _ at q3; change _ = some _ at q4; change _ = some _ at q5; change _ = some _ at q6; change _ = some _ at q7; change _ = some _ at q8; change _ = some _ at q9; go_simp; try with_reducible rfl
  try simp only [Act.put, List.setIfInBounds_toArray, List.set_cons_zero, List.set_cons_succ, List.getElem_toArray, List.getElem_cons_succ, List.getElem_cons_zero]
  refine one_D 13 rfl (by kernel_rfl) (fun KQ hK => ?_)
  go_simp
  refine HG9.out.viewF.mono ?_
  rintro x _ ⟨rfl, rfl⟩
  refine hK.out _ _ hS8 (fun _ => trivial) ?_
  clear hK
  refine take_S (v := ?v18c) 18 rfl (by kernel_rfl) (by kernel_rfl) (by kernel_rfl) (by kernel_rfl) (fun _ _ _ h => hQ _ _ _ _ _ h) hS8 (fun _ => trivial) rfl (fun w' hq => ?h18c) ?_
  case h18c => obtain ⟨q0, q1, q2, q3, q4, q5, q6, q7, q8, q9, -⟩ := hq; change _ = some _ at q0; change _ = some _ at q1; change _ = some _ at q2; change _ = some _ at q3; change _ = some _ at q4; change _ = some _ at q5; change _ = some _ at q6; change _ = some _ at q7; change _ = some _ at q8; change _ = some _ at q9; go_simp; try with_reducible rfl
  try simp only [Act.put, List.setIfInBounds_toArray, List.set_cons_zero, List.set_cons_succ, List.getElem_toArray, List.getElem_cons_succ, List.getElem_cons_zero]
  refine take_S (v := ?v19c) 19 rfl (by kernel_rfl) (by kernel_rfl) (by kernel_rfl) (by kernel_rfl) (fun _ _ _ h => hQ _ _ _ _ _ h) hS8 (fun _ => trivial) rfl (fun w' hq => ?h19c) ?_
  case h19c => obtain ⟨q0, q1, q2, q3, q4, q5, q6, q7, q8, q9, -⟩ := hq; change _ = some _ at q0; change _ = some _ at q1; change _ = some _ at q2; change _ = some _ at q3; change _ = some _ at q4; change _ = some _ at q5; change _ = some _ at q6; change _ = some _ at q7; change _ = some _ at q8; change _ = some _ at q9; go_simp; try with_reducible rfl
  try simp only [Act.put, List.setIfInBounds_toArray, List.set_cons_zero, List.set_cons_succ, List.getElem_toArray, List.getElem_cons_succ, List.getElem_cons_zero]
  refine take_S (v := ?v20c) 20 rfl (by kernel_rfl) (by kernel_rfl) (by kernel_rfl) (by kernel_rfl) (fun _ _ _ h => hQ _ _ _ _ _ h) hS8 (fun _ => trivial) rfl (fun w' hq => ?h20c) ?_
  case h20c => obtain ⟨q0, q1, q2, q3, q4, q5, q6, q7, q8, q9, -⟩ := hq; change _ = some _ at q0; change _ = some _ at q1; change _ = some _ at q2; change _ = some _ at q3; change _ = some _ at q4; change _ = some _ at q5; change _ = some _ at q6; change _ = some _ at q7; change _ = some _ at q8; change _ = some _ at q9; go_simp; try with_reducible rfl
  try simp only [Act.put, List.setIfInBounds_toArray, List.set_cons_zero, List.set_cons_succ, List.getElem_toArray, List.getElem_cons_succ, List.getElem_cons_zero]
  refine take_S (v := ?v21c) 21 rfl (by kernel_rfl) (by kernel_rfl) (by kernel_rfl) (by kernel_rfl) (fun _ _ _ h => hQ _ _ _ _ _ h) hS8 (fun _ => trivial) rfl (fun w' hq => ?h21c) ?_
  case h21c => obtain ⟨q0, q1, q2, q3, q4, q5, q6, q7, q8, q9, -⟩ := hq; change _ = some _ at q0; change _ = some _ at q1; change _ = some _ at q2; change _ = some _ at q3; change _ = some _ at q4; change _ = some _ at q5; change _ = some _ at q6; change _ = some _ at q7; change _ = some _ at q8; change _ = some _ at q9; go_simp; try with_reducible rfl
  try simp only [Act.put, List.setIfInBounds_toArray, List.set_cons_zero, List.set_cons_succ, List.getElem_toArray, List.getElem_cons_succ, List.getElem_cons_zero]
  refine take_S (v := ?v22c) 22 rfl (by kernel_rfl) (by kernel_rfl) (by kernel_rfl) (by kernel_rfl) (fun _ _ _ h => hQ _ _ _ _ _ h) hS8 (fun _ => trivial) rfl (fun w' hq => ?h22c) ?_
  case h22c => obtain ⟨q0, q1, q2, q3, q4, q5, q6, q7, q8, q9, -⟩ := hq; change _ = some _ at q0; change _ = some _ at q1; change _ = some _ at q2; change _ = some _ at q3; change _ = some _ at q4; change _ = some _ at q5; change _ = some _ at q6; change _ = some _ at q7; change _ = some _ at q8; change _ = some _ at q9; go_simp; try with_reducible rfl
  try simp only [Act.put, List.setIfInBounds_toArray, List.set_cons_zero, List.set_cons_succ, List.getElem_toArray, List.getElem_cons_succ, List.getElem_cons_zero]
  refine take_S (v := ?v23c) 23 rfl (by kernel_rfl) (by kernel_rfl) (by kernel_rfl) (by kernel_rfl) (fun _ _ _ h => hQ _ _ _ _ _ h) hS8 (fun _ => trivial) rfl (fun w' hq => ?h23c) ?_
  case h23c => obtain ⟨q0, q1, q2, q3, q4, q5, q6, q7, q8, q9, -⟩ := hq; change _ = some _ at q0; change _ = some _ at q1; change _ = some _ at q2; change _ = some _ at q3; change _ = some _ at q4; change _ = some _ at q5; change _ = some _ at q6; change _ = some _ at q7; change _ = some _ at q8; change _ = some _ at q9; go_simp; try with_reducible rfl
  try simp only [Act.put, List.setIfInBounds_toArray, List.set_cons_zero, List.set_cons_succ, List.getElem_toArray, List.getElem_cons_succ, List.getElem_cons_zero]
  refine take_S (v := ?v25c) 25 rfl (by kernel_rfl) (by kernel_rfl) (by kernel_rfl) (by kernel_rfl) (fun _ _ _ h => hQ _ _ _ _ _ h) hS8 (fun _ => trivial) rfl (fun w' hq => ?h25c) ?_
  case h25c => obtain ⟨q0, q1, q2, q3, q4, q5, q6, q7, q8, q9, -⟩ := hq; change _ = some _ at q0; change _ = some _ at q1; change _ = some _ at q2; change _ = some _ at q3; change _ = some _ at q4; change _ = some _ at q5; change _ = some _ at q6; change _ = some _ at q7; change _ = some _ at q8; change _ = some _ at q9; go_simp; try with_reducible rfl
  try simp only [Act.put, List.setIfInBounds_toArray, List.set_cons_zero, List.set_cons_succ, List.getElem_toArray, List.getElem_cons_succ, List.getElem_cons_zero]
  refine take_S (v := ?v26c) 26 rfl (by kernel_rfl) (by kernel_rfl) (by kernel_rfl) (by kernel_rfl) (fun _ _ _ h => hQ _ _ _ _ _ h) hS8 (fun _ => trivial) rfl (fun w' hq => ?h26c) ?_
  case h26c => obtain ⟨q0, q1, q2, q3, q4, q5, q6, q7, q8, q9, -⟩ := hq; change _ = some _ at q0; change _ = some _ at q1; change _ = some _ at q2; change _ = some _ at q3; change _ = some _ at q4; change _ = some _ at q5; change _ = some _ at q6; change _ = some _ at q7; change _ = some _ at q8; change _ = some _ at q9; go_simp; try with_reducible rfl
  try simp only [Act.put, List.setIfInBounds_toArray, List.set_cons_zero, List.set_cons_succ, List.getElem_toArray, List.getElem_cons_succ, List.getElem_cons_zero]
  refine take_S (v := ?v27c) 27 rfl (by kernel_rfl) (by kernel_rfl) (by kernel_rfl) (by kernel_rfl) (fun _ _ _ h => hQ _ _ _ _ _ h) hS8 (fun _ => trivial) rfl (fun w' hq => ?h27c) ?_
  case h27c => obtain ⟨q0, q1, q2, q3, q4, q5, q6, q7, q8, q9, -⟩ := hq; change _ = some _ at q0; change _ = some _ at q1; change _ = some _ at q2; change _ = some _ at q3; change _ = some _ at q4; change _ = some _ at q5; change _ = some _ at q6; change _ = some _ at q7; change _ = some _ at q8; change _ = some _ at q9; go_simp; try with_reducible rfl
  try simp only [Act.put, List.setIfInBounds_toArray, List.set_cons_zero, List.set_cons_succ, List.getElem_toArray, List.getElem_cons_succ, List.getElem_cons_zero]
  refine one_D 24 rfl (by kernel_rfl) (fun KQ hK => ?_)
  go_simp
  refine (Hp1.out w8).mono ?_
  rintro x _ ⟨rfl, rfl⟩
  refine hK.out _ _ hS8 (fun _ => trivial) ?_
  clear hK
  refine one_D 28 rfl (by kernel_rfl) (fun KQ hK => ?_)
  go_simp
  refine (Hp2.out w8).mono ?_
  rintro x _ ⟨rfl, rfl⟩
  refine hK.out _ _ hS8 (fun _ => trivial) ?_
  clear hK
  refine take_S (v := ?v29e) 29 rfl (by kernel_rfl) (by kernel_rfl) (by kernel_rfl) (by kernel_rfl) (fun _ _ _ h => hQ _ _ _ _ _ h) hS8 (fun _ => trivial) rfl (fun w' hq => ?h29e) ?_
  case h29e => obtain ⟨q0, q1, q2, q3, q4, q5, q6, q7, q8, q9, -⟩ := hq; change _ = some _ at q0; change _ = some _ at q1; change _ = some _ at q2; change _ = some _ at q3; change _ = some _ at q4; change _ = some _ at q5; change _ = some _ at q6; change _ = some _ at q7; change _ = some _ at q8; change _ = some _ at q9; go_simp; try with_reducible rfl
  try simp only [Act.put, List.setIfInBounds_toArray, List.set_cons_zero, List.set_cons_succ, List.getElem_toArray, List.getElem_cons_succ, List.getElem_cons_zero]
  refine take_S (v := ?v30e) 30 rfl (by kernel_rfl) (by kernel_rfl) (by kernel_rfl) (by kernel_rfl) (fun _ _ _ h => hQ _ _ _ _ _ h) hS8 (fun _ => trivial) rfl (fun w' hq => ?h30e) ?_
  case h30e => obtain ⟨q0, q1, q2, q3, q4, q5, q6, q7, q8, q9, -⟩ := hq; change _ = some _ at q0; change _ = some _ at q1; change _ = some _ at q2; change _ = some _ at q3; change _ = some _ at q4; change _ = some _ at q5; change _ = some _ at q6; change _ = some _ at q7; change _ = some _ at q8; change _ = some _ at q9; go_simp; try with_reducible rfl
  try simp only [Act.put, List.setIfInBounds_toArray, List.set_cons_zero, List.set_cons_succ, List.getElem_toArray, List.getElem_cons_succ, List.getElem_cons_zero]
  refine take_S (v := ?v31e) 31 rfl (by kernel_rfl) (by kernel_rfl) (by kernel_rfl) (by kernel_rfl) (fun _ _ _ h => hQ _ _ _ _ _ h) hS8 (fun _ => trivial) rfl (fun w' hq => ?h31e) ?_
  case h31e => obtain ⟨q0, q1, q2, q3, q4, q5, q6, q7, q8, q9, -⟩ := hq; change _ = some _ at q0; change _ = some _ at q1; change _ = some _ at q2; change _ = some _ at q3; change _ = some _ at q4; change _ = some _ at q5; change _ = some _ at q6; change _ = some _ at q7; change _ = some _ at q8; change _ = some _ at q9; go_simp; try with_reducible rfl
  try simp only [Act.put, List.setIfInBounds_toArray, List.set_cons_zero, List.set_cons_succ, List.getElem_toArray, List.getElem_cons_succ, List.getElem_cons_zero]
  refine done_D (by kernel_rfl) ?_ _
  clear hS8
  have HQ9 := Lib.hid (show SpQ w8 (fun j => V.heap.size ≤ j ∧ j < w8.heap.size) p' m d' from by obtain ⟨cs, ho, hE⟩ := HO9.out; rw [← Hmm.out] at ho; exact SpQ.own ho hE Hmm.out)
  go_upto_block 5 with fail
  refine spoil5 HQ9.out HK9.out (by omega) ?_
  intro u30 u254 u255 u256 u257 u258 u259 u260 u261 u262 u263 u264 u265 u266 u267 u268 u269 w9 hE5
  have hz := HS1.out.X.size
  have hAz := HS1.out.kA.lt
  have HG10 := Lib.hid ((HG1.out.add (F' := fun j => V.heap.size ≤ j ∧ j < w8.heap.size) HB8.out (fun j hj => .inr hj)).spoil hE5 (fun j hj => ⟨by omega, hj⟩))
  have HX10 := Lib.hid (Ext.from (HS1.out.X.trans (HB8.out.mono hz)) hE5 (fun j hj => by omega))
  clear hE5 HQ9 HK9 HO9 HG9 HB8
  go_wp2_with fail
  apply Hm.out
  exact ⟨HG10.out.add (F' := fun _ => False) (Below.refl _ _) (fun j hj => hj.elim), HX10.out⟩
end Go.Proofs.Ytgmekodfkhihiaa
