/-
  The reference's Append: the contracts. (Printed by wip/gen_rfapp.py.)
-/
import Derived.Test.YtmoifhoncanjjaaRfCut
namespace Go.Proofs.Ytmoifhoncanjjaa
open Go.RowKit
set_option linter.unusedSimpArgs false

theorem holds4 {w : World} {g : Nat} {t : TypeId} {a b c d : Value} (h : Blk w g t #[a, b, c, d]) : Holds [(g, 0, a), (g, 1, b), (g, 2, c), (g, 3, d)] w := by
  obtain ⟨a0, a1, a2, a3, -⟩ := h.c4
  exact ⟨a0, a1, a2, a3, trivial⟩

theorem RCutTo.below {S : Nat → Prop} {b : Nat} {m : Int} {es : List Ent} {w w1 w2 : World} (h : RCutTo S b m es w w1) (hb : Below w1.heap.size w1 w2) (hz : b < w.heap.size) : RCutTo S b m es w w2 := by
  obtain ⟨⟨p, c, hB, hI, hS⟩, hX⟩ := h
  refine ⟨⟨p, c, hB.below hb, hI.keep (fun k hk _ => hb.block k hk) (fun k h _ => h.imp id fun h => ⟨h.1, Nat.lt_of_lt_of_le h.2 hb.size⟩), ?_⟩, hX.trans (Ext.of_below _ hb)⟩
  rintro (h | h)
  · exact hS (.inl h)
  · omega

set_option maxHeartbeats 1600000 in
theorem ref_Append {w : World} {S T : Nat → Prop} {b : Nat} {m : Int} {es : List Ent} {e : Ent} {s : Value} (h : RLog w S b m es) (h0 : 0 ≤ m) (h1 : m ≤ 4611686018427387904) (hl : es.length < 64) (hs : CmdN w T s e.cmd) (he : e.cmd.length ≤ 140737488355328) :
    Calls Try.prog 23 #[.pointer (some ⟨b, 0, none⟩), entVal e s] w fun x w' => x = .returned (.tuple #[.int .u64 (m + es.length + 1), .int .i64 0]) ∧ RCutTo S b m (es ++ [e]) w w' := by
  obtain ⟨sp, sc, rfl⟩ := Rd.slice hs.1
  have hz : b < w.heap.size := by obtain ⟨p, c, hB, -⟩ := h; exact hB.lt
  have hS : ¬ S b := by obtain ⟨p, c, -, -, hS⟩ := h; exact hS
  have hX0 := (Below.refl w.heap.size w).alloc (Nat.le_refl _) (.cells #[.int .u64 e.t, .int .u32 e.c, .int .u64 e.r, .slice sp e.cmd.length sc] 33)
  have hsz0 : (w.alloc (.cells #[.int .u64 e.t, .int .u32 e.c, .int .u64 e.r, .slice sp e.cmd.length sc] 33)).heap.size = w.heap.size + 1 := World.size_alloc _ _
  have h' := h
  obtain ⟨p, c, hB0, hI, -⟩ := h'
  obtain ⟨⟨cs, hr0, hE⟩, hn⟩ := hI
  rw [its_len] at hr0
  have hr := Rd.alloc hr0 (by decide) (.cells #[.int .u64 e.t, .int .u32 e.c, .int .u64 e.r, .slice sp e.cmd.length sc] 33)
  have hB := hB0.alloc (.cells #[.int .u64 e.t, .int .u32 e.c, .int .u64 e.r, .slice sp e.cmd.length sc] 33)
  have kE := Blk.new w 33 #[.int .u64 e.t, .int .u32 e.c, .int .u64 e.r, .slice sp e.cmd.length sc]
  obtain ⟨a0, a1, f0, f1, hz1⟩ := hB.c2
  have hwr : IntKind.u64.wrap (m + (es.length : Int) + 1) = m + es.length + 1 := IntWalk.u64_in _ (by omega)
  have HWr := Lib.hid hwr
  have H := Lib.hid h
  have HS := Lib.hid hS
  have HX0 := Lib.hid hX0
  have HZ0 := Lib.hid hsz0
  have Hs := Lib.hid hs
  have Hr := Lib.hid hr
  have HE := Lib.hid hE
  have Hn := Lib.hid hn
  have HB := Lib.hid hB0
  have KE := Lib.hid kE
  clear hwr h hS hX0 hsz0 hs hr hr0 hE hn hB hB0 kE
  unfold entVal
  go_enter Try.func23, Try.ntmps23
  go_wp2_with (at_builtin; go_loud (refine wpList_append_N rfl (.tmp 13) (.tmp 17) 56 rfl (w.heap.size + 1) 77 (.agg #[.int .u64 0, .int .u64 0, .int .u32 0, .int .u64 0, .slice none 0 0]) 5 56 Try.underlying56 infoI rfl (by decide) (.slice none 0 0) 0 [] S rfl (World.ownsRow_nil _ _ _ _) p es.length c cs rfl Hr.out (Els.one HE.out (ItR.one CmdN.one) (by decide)) Hn.out (by unfold maxLen; omega) (by omega) (by rw [HZ0.out]; omega) ?_))
  intro v1 w1 hown hgrow
  obtain ⟨p1, c1, rfl⟩ := own_slice hown
  have hX1 : Below w.heap.size w w1 := HX0.out.grown hgrow (by rw [HZ0.out]; omega) (by intro k hk; simp [Value.ownBlock] at hk)
  have kE1 := KE.out.grown hgrow (by simp [Value.ownBlock])
  have hz1 : w.heap.size + 1 ≤ w1.drew.heap.size := by have := hgrow.size; rw [HZ0.out] at this; exact this
  have HX1 := Lib.hid hX1.drew
  have KE1 := Lib.hid kE1.drew
  have HO1 := Lib.hid (show w1.drew.ownsRow _ _ _ _ _ _ from hown)
  have HZ1 := Lib.hid hz1
  clear hown hgrow hX1 kE1 hz1 KE HX0
  go_wp2_with fail
  have hS : Holds [(w.heap.size, 0, .int .u64 e.t), (w.heap.size, 1, .int .u32 e.c), (w.heap.size, 2, .int .u64 e.r), (w.heap.size, 3, .slice sp e.cmd.length sc)] w1.drew := holds4 KE1.out
  refine begin_D (T := Hold0) [] (by kernel_rfl) hS (fun _ => trivial) ?_
  refine take_S (v := ?v0) 0 rfl (by kernel_rfl) (by kernel_rfl) (by kernel_rfl) (by kernel_rfl) (fun _ _ _ h => h) hS (fun _ => trivial) rfl (fun w' hq => ?h0) ?_
  case h0 => obtain ⟨hq0, hq1, hq2, hq3, -⟩ := hq; change _ = some _ at hq0; change _ = some _ at hq1; change _ = some _ at hq2; change _ = some _ at hq3; go_simp; try with_reducible rfl
  try simp only [Act.put, List.setIfInBounds_toArray, List.set_cons_zero, List.set_cons_succ, List.getElem_toArray, List.getElem_cons_succ, List.getElem_cons_zero]
  refine take_S (v := ?v1) 1 rfl (by kernel_rfl) (by kernel_rfl) (by kernel_rfl) (by kernel_rfl) (fun _ _ _ h => h) hS (fun _ => trivial) rfl (fun w' hq => ?h1) ?_
  case h1 => obtain ⟨hq0, hq1, hq2, hq3, -⟩ := hq; change _ = some _ at hq0; change _ = some _ at hq1; change _ = some _ at hq2; change _ = some _ at hq3; go_simp; try with_reducible rfl
  try simp only [Act.put, List.setIfInBounds_toArray, List.set_cons_zero, List.set_cons_succ, List.getElem_toArray, List.getElem_cons_succ, List.getElem_cons_zero]
  refine take_S (v := ?v2) 2 rfl (by kernel_rfl) (by kernel_rfl) (by kernel_rfl) (by kernel_rfl) (fun _ _ _ h => h) hS (fun _ => trivial) rfl (fun w' hq => ?h2) ?_
  case h2 => obtain ⟨hq0, hq1, hq2, hq3, -⟩ := hq; change _ = some _ at hq0; change _ = some _ at hq1; change _ = some _ at hq2; change _ = some _ at hq3; go_simp; try with_reducible rfl
  try simp only [Act.put, List.setIfInBounds_toArray, List.set_cons_zero, List.set_cons_succ, List.getElem_toArray, List.getElem_cons_succ, List.getElem_cons_zero]
  refine take_S (v := ?v5) 5 rfl (by kernel_rfl) (by kernel_rfl) (by kernel_rfl) (by kernel_rfl) (fun _ _ _ h => h) hS (fun _ => trivial) rfl (fun w' hq => ?h5) ?_
  case h5 => obtain ⟨hq0, hq1, hq2, hq3, -⟩ := hq; change _ = some _ at hq0; change _ = some _ at hq1; change _ = some _ at hq2; change _ = some _ at hq3; go_simp; try with_reducible rfl
  try simp only [Act.put, List.setIfInBounds_toArray, List.set_cons_zero, List.set_cons_succ, List.getElem_toArray, List.getElem_cons_succ, List.getElem_cons_zero]
  refine one_D 3 rfl (by kernel_rfl) (fun KQ hK => ?_)
  go_simp
  refine (ref_Op (w := w1.drew) (S := S) (m := m) (es := es) (H.out.below HX1.out) (by omega)).mono ?_
  rintro x w2 ⟨rfl, hb2⟩
  have hX2 : Below w.heap.size w w2 := HX1.out.trans (hb2.mono HX1.out.size)
  have kE2 := KE1.out.below hb2
  have hS2 : Holds [(w.heap.size, 0, .int .u64 e.t), (w.heap.size, 1, .int .u32 e.c), (w.heap.size, 2, .int .u64 e.r), (w.heap.size, 3, .slice sp e.cmd.length sc)] w2 := holds4 kE2
  have ho2 := own_below HO1.out hb2
  have hz2 : w1.drew.heap.size ≤ w2.heap.size := hb2.size
  have HX2 := Lib.hid hX2
  have KE2 := Lib.hid kE2
  have HO2 := Lib.hid ho2
  have HZ2 := Lib.hid hz2
  refine hK.out _ _ hS2 (fun _ => trivial) ?_
  clear hK hS hb2 hX2 kE2 ho2 hz2
  refine take_S (v := ?v4) 4 rfl (by kernel_rfl) (by kernel_rfl) (by kernel_rfl) (by kernel_rfl) (fun _ _ _ h => h) hS2 (fun _ => trivial) rfl (fun w' hq => ?h4) ?_
  case h4 => obtain ⟨hq0, hq1, hq2, hq3, -⟩ := hq; change _ = some _ at hq0; change _ = some _ at hq1; change _ = some _ at hq2; change _ = some _ at hq3; go_simp; try with_reducible rfl
  try simp only [Act.put, List.setIfInBounds_toArray, List.set_cons_zero, List.set_cons_succ, List.getElem_toArray, List.getElem_cons_succ, List.getElem_cons_zero]
  rw [HWr.out]
  refine one_D 6 rfl (by kernel_rfl) (fun KQ hK => ?_)
  go_simp
  refine (ref_Own (S := T) e (Hs.out.keep (fun k hk _ => HX2.out.block k hk) (fun _ h _ => h)) he).mono ?_
  rintro x w3 ⟨p3, c3, rfl, ho3, hb3⟩
  have hX3 : Below w.heap.size w w3 := HX2.out.trans (hb3.mono HX2.out.size)
  have kE3 := KE2.out.below hb3
  have hS3 : Holds [(w.heap.size, 0, .int .u64 e.t), (w.heap.size, 1, .int .u32 e.c), (w.heap.size, 2, .int .u64 e.r), (w.heap.size, 3, .slice sp e.cmd.length sc)] w3 := holds4 kE3
  have hR3 := own_below HO2.out hb3
  have hz3 : w2.heap.size ≤ w3.heap.size := hb3.size
  have HX3 := Lib.hid hX3
  have KE3 := Lib.hid kE3
  have HR3 := Lib.hid hR3
  have HO3 := Lib.hid ho3
  have HZ3 := Lib.hid hz3
  refine hK.out _ _ hS3 (fun _ => trivial) ?_
  clear hK hS2 hb3 hX3 kE3 hR3 ho3 hz3
  unfold entVal
  refine take_S (v := ?v7) 7 rfl (by kernel_rfl) (by kernel_rfl) (by kernel_rfl) (by kernel_rfl) (fun _ _ _ h => h) hS3 (fun _ => trivial) rfl (fun w' hq => ?h7) ?_
  case h7 => obtain ⟨hq0, hq1, hq2, hq3, -⟩ := hq; change _ = some _ at hq0; change _ = some _ at hq1; change _ = some _ at hq2; change _ = some _ at hq3; go_simp; try with_reducible rfl
  try simp only [Act.put, List.setIfInBounds_toArray, List.set_cons_zero, List.set_cons_succ, List.getElem_toArray, List.getElem_cons_succ, List.getElem_cons_zero]
  refine one_D 8 rfl (by kernel_rfl) (fun KQ hK => ?_)
  go_simp
  have hb4 := (Below.refl w3.heap.size w3).alloc (Nat.le_refl _) (.cells #[.int .u64 (m + es.length + 1), .int .u64 e.t, .int .u32 e.c, .int .u64 e.r, .slice p3 e.cmd.length c3] 77)
  have hsz4 : (w3.alloc (.cells #[.int .u64 (m + es.length + 1), .int .u64 e.t, .int .u32 e.c, .int .u64 e.r, .slice p3 e.cmd.length c3] 77)).heap.size = w3.heap.size + 1 := World.size_alloc _ _
  have hm4 := Rd.made1 w3 77 5 [.int .u64 (m + es.length + 1), .int .u64 e.t, .int .u32 e.c, .int .u64 e.r, .slice p3 e.cmd.length c3] rfl
  generalize w3.alloc (.cells #[.int .u64 (m + es.length + 1), .int .u64 e.t, .int .u32 e.c, .int .u64 e.r, .slice p3 e.cmd.length c3] 77) = w4 at hb4 hsz4 hm4 ⊢
  have hX4 : Below w.heap.size w w4 := HX3.out.trans (hb4.mono HX3.out.size)
  have kE4 := KE3.out.below hb4
  have hS4 : Holds [(w.heap.size, 0, .int .u64 e.t), (w.heap.size, 1, .int .u32 e.c), (w.heap.size, 2, .int .u64 e.r), (w.heap.size, 3, .slice sp e.cmd.length sc)] w4 := holds4 kE4
  have hR4 := own_below HR3.out hb4
  have ho4 := own_below HO3.out hb4
  have hz4 : w3.heap.size ≤ w4.heap.size := hb4.size
  have HX4 := Lib.hid hX4
  have KE4 := Lib.hid kE4
  have HR4 := Lib.hid hR4
  have HO4 := Lib.hid ho4
  have HZ4 := Lib.hid hz4
  have HM4 := Lib.hid hm4
  refine hK.out _ _ hS4 (fun _ => trivial) ?_
  clear hK hS3 hb4 hX4 kE4 hR4 ho4 hz4 hm4
  refine one_D 9 rfl (by kernel_rfl) (fun KQ hK => ?_)
  refine Eq.mpr (if_pos (by rfl)) ?_
  obtain ⟨i0, hi, iz0, iz1, iz2⟩ := info_parts infoI
  have hza : w.heap.size + 1 ≤ w4.heap.size := Nat.le_trans HZ1.out (Nat.le_trans HZ2.out (Nat.le_trans HZ3.out HZ4.out))
  refine wp_append_own _ (.tmp 20) (.tmp 27) 56 rfl (w.heap.size + 1) 77 i0 (.agg #[.int .u64 0, .int .u64 0, .int .u32 0, .int .u64 0, .slice none 0 0]) 5 56 Try.underlying56 hi iz0 iz1 iz2 rfl (by decide) (.slice p1 es.length c1) es.length cs rfl HR4.out ⟨w3.heap.size, 0, none⟩ 1 1 [.int .u64 (m + es.length + 1), .int .u64 e.t, .int .u32 e.c, .int .u64 e.r, .slice p3 e.cmd.length c3] rfl rfl ?a1 ?a2 (by unfold maxLen; omega) (by omega) hza ?_
  case a1 =>
    intro j u hu
    obtain ⟨b', off, he, -, -, hc⟩ := Rd.addr HM4.out (by omega)
    injection he with he
    injection he with e1 e2
    subst e1; subst e2
    have := hc j u hu
    rw [show (⟨w3.heap.size, 0, none⟩ : Addr).add j = ⟨w3.heap.size, 0 + j, none⟩ from by unfold Addr.add; split <;> simp_all]
    exact this
  case a2 => intro u hu; simp at hu; rcases hu with rfl | rfl | rfl | rfl | rfl <;> rfl
  intro v5 w5 hown5 hgrow5 _
  obtain ⟨p5, c5, rfl⟩ := own_slice hown5
  have hX5 : Below w.heap.size w w5 := HX4.out.grown hgrow5 (by omega) (by intro k hk; have := (HR4.out.lt k hk).1; omega)
  have kE5 := KE4.out.grown hgrow5 (own_ne HR4.out KE4.out (by decide)).symm
  have hS5 : Holds [(w.heap.size, 0, .int .u64 e.t), (w.heap.size, 1, .int .u32 e.c), (w.heap.size, 2, .int .u64 e.r), (w.heap.size, 3, .slice sp e.cmd.length sc)] w5 := holds4 kE5
  have kB5 := HB.out.below hX5
  have hap : (es ++ [e]).length = es.length + 1 := by simp
  have hE5 : ItsRd w5 (More S w w5) (.slice p5 (es ++ [e]).length c5) (its m (es ++ [e])) := by
    refine ⟨⟨cs ++ [.int .u64 (m + es.length + 1), .int .u64 e.t, .int .u32 e.c, .int .u64 e.r, .slice p3 e.cmd.length c3], ?_, ?_⟩, NilOk.own (by rw [hap]; exact hown5)⟩
    · rw [its_len, hap]
      exact Rd.weak (Rd.of_own hown5) (fun k hk _ => .inr ⟨by omega, hk.2⟩) (by decide)
    · rw [its_app]
      refine Els.snoc (HE.out.imp fun c e _ ⟨s, hs, hq⟩ => ⟨s, hs, hq.keep (fun k hk _ => hX5.block k hk) (fun k hS hk => .inl ⟨hS, hk⟩)⟩) rfl ⟨_, rfl, ?_, ?_⟩
      · exact Rd.weak (Rd.of_own (own_grown HO4.out HR4.out (by decide) hgrow5)) (fun k hk _ => .inr ⟨by have := hk.1; have := HX2.out.size; omega, hk.2⟩) (by decide)
      · exact NilOk.own HO4.out
  have hst := (RLog.stored (m := m) (p := p5) (c := c5) (es := es ++ [e]) hz kB5 hE5 HS.out hX5).2 rfl
  rw [hap] at hst
  obtain ⟨a5, b5, f5, g5, hz5⟩ := kB5.c2
  have kE6 : Blk (w5.setCell ⟨b, 1, none⟩ (.slice p5 (es.length + 1) c5)) w.heap.size 33 #[.int .u64 e.t, .int .u32 e.c, .int .u64 e.r, .slice sp e.cmd.length sc] := (heap_setCell_other w5 ⟨b, 1, none⟩ _ _ (by show w.heap.size ≠ b; omega)).trans kE5
  have hS6 : Holds [(w.heap.size, 0, .int .u64 e.t), (w.heap.size, 1, .int .u32 e.c), (w.heap.size, 2, .int .u64 e.r), (w.heap.size, 3, .slice sp e.cmd.length sc)] (w5.setCell ⟨b, 1, none⟩ (.slice p5 (es.length + 1) c5)) := holds4 kE6
  have Hz6 := Lib.hid hS6
  have Hst := Lib.hid hst
  have Hap := Lib.hid hap
  refine hK.out _ _ hS5 (fun _ => trivial) ?_
  clear hK hS4 hown5 hgrow5 hX5 kE5 hE5 hst hap kB5 kE6 hS6
  refine take_S (v := ?v10) 10 rfl (by kernel_rfl) (by kernel_rfl) (by kernel_rfl) (by kernel_rfl) (fun _ _ _ h => h) hS5 (fun _ => trivial) rfl (fun w' hq => ?h10) ?_
  case h10 => obtain ⟨hq0, hq1, hq2, hq3, -⟩ := hq; change _ = some _ at hq0; change _ = some _ at hq1; change _ = some _ at hq2; change _ = some _ at hq3; go_simp; try with_reducible rfl
  try simp only [Act.put, List.setIfInBounds_toArray, List.set_cons_zero, List.set_cons_succ, List.getElem_toArray, List.getElem_cons_succ, List.getElem_cons_zero]
  refine take_S (v := ?v11) 11 rfl (by kernel_rfl) (by kernel_rfl) (by kernel_rfl) (by kernel_rfl) (fun _ _ _ h => h) hS5 (fun _ => trivial) rfl (fun w' hq => ?h11) ?_
  case h11 => obtain ⟨hq0, hq1, hq2, hq3, -⟩ := hq; change _ = some _ at hq0; change _ = some _ at hq1; change _ = some _ at hq2; change _ = some _ at hq3; go_simp; try with_reducible rfl
  try simp only [Act.put, List.setIfInBounds_toArray, List.set_cons_zero, List.set_cons_succ, List.getElem_toArray, List.getElem_cons_succ, List.getElem_cons_zero]
  refine one_D 12 rfl (by kernel_rfl) (fun KQ hK => ?_)
  go_simp
  refine hK.out _ _ Hz6.out (fun _ => trivial) ?_
  refine done_D (by kernel_rfl) ?_ _
  go_wp2_with fail
  refine (ref_Op Hst.out.1 (by rw [Hap.out]; omega)).mono ?_
  rintro x w7 ⟨rfl, hb7⟩
  rw [Hap.out, show m + ((es.length + 1 : Nat) : Int) = m + es.length + 1 from by push_cast; omega]
  have Hb7 := Lib.hid hb7
  clear hb7
  go_wp2_with fail
  go_ret2
  exact ⟨rfl, Hst.out.below Hb7.out hz⟩

set_option maxHeartbeats 800000 in
theorem ref_Append_full {w : World} {S : Nat → Prop} {b : Nat} {m : Int} {es : List Ent} {e : Ent} {p : Option Addr} {n c : Nat} (h : RLog w S b m es) (hl : es.length = 64) :
    Calls Try.prog 23 #[.pointer (some ⟨b, 0, none⟩), entVal e (.slice p n c)] w fun x w' => x = .returned (.tuple #[.int .u64 0, .int .i64 7]) ∧ Below w.heap.size w w' := by
  have hX0 := (Below.refl w.heap.size w).alloc (Nat.le_refl _) (.cells #[.int .u64 e.t, .int .u32 e.c, .int .u64 e.r, .slice p n c] 33)
  obtain ⟨p, c, hB, -⟩ := h.below hX0
  obtain ⟨a0, a1, f0, f1, hz1⟩ := hB.c2
  rw [hl] at a1
  have HX0 := Lib.hid hX0
  clear hX0 hB h
  unfold entVal
  go_enter Try.func23, Try.ntmps23
  go_wp2_with fail
  go_ret2
  exact ⟨rfl, HX0.out⟩
end Go.Proofs.Ytmoifhoncanjjaa
