/-
  Cut: the contract. (The regions' steps were printed by a program: wip/gen_cut.py.)
-/
import Derived.Test.YteijpcedggkdpaaLogAt
import Derived.Test.YteijpcedggkdpaaOrd
namespace Go.Proofs.Yteijpcedggkdpaa
open Go.RowKit
set_option linter.unusedSimpArgs false

/-- The log of block b now has that base and those entries; nothing else is turned. -/
def CutTo (S : Nat → Prop) (b : Nat) (m : Int) (es : List Ent) (w w' : World) : Prop := LogAt w' (More S w w') b m es ∧ Ext (fun x => x = b) w w'

theorem CutTo.from_ {S : Nat → Prop} {b : Nat} {m : Int} {es : List Ent} {w w0 w' : World} (h : CutTo S b m es w0 w') (h0 : Below w.heap.size w w0) (hS : ∀ j, S j → j < w.heap.size) (hb : b < w.heap.size) : CutTo S b m es w w' := by
  obtain ⟨⟨p, c, hB, hE, hSb⟩, hX⟩ := h
  have hsz := h0.size
  have hto : ∀ j, More S w0 w' j → More S w w' j := fun j hj => by
    rcases hj with hj | hj
    · exact .inl ⟨hj.1, hS j hj.1⟩
    · exact .inr ⟨by omega, hj.2⟩
  refine ⟨⟨p, c, hB, hE.keep (fun _ _ _ => rfl) (fun j hj _ => hto j hj), ?_⟩, ?_⟩
  · rintro (h | h)
    · exact hSb (.inl ⟨h.1, by omega⟩)
    · omega
  · exact ⟨hX.os.trans h0.os, hX.tape.trans h0.tape, hX.output.trans h0.output, Nat.le_trans hsz hX.size, fun j hj hn => (hX.block j (by omega) hn).trans (h0.block j hj)⟩

set_option maxHeartbeats 1600000 in
theorem cut_1 {w : World} {S : Nat → Prop} {b g1 g2 k : Nat} {m m' : Int} {es : List Ent} (hL : LogAt w S b m es) (ok : LogOk m es) (k1 : Blk w g1 22 #[.int .u64 m'])
    (k2 : Blk w g2 26 #[.pointer (some ⟨b, 0, none⟩)]) (hk : k ≤ es.length) :
    Calls Try.prog 32 #[.int .i64 (k : Int), .pointer (some ⟨g1, 0, none⟩), .pointer (some ⟨g2, 0, none⟩)] w fun x w' => x = .returned (.tuple #[]) ∧ CutTo S b m' (es.drop k) w w' := by
  obtain ⟨p, c, hB, hE, hSb⟩ := hL
  obtain ⟨a0, a1, a2, f0, f1, f2, hz⟩ := hB.c3
  obtain ⟨b0, g0, hz1⟩ := k1.c1
  obtain ⟨m0, n0, hz2⟩ := k2.c1
  have hlen := ok.len
  have hD : (es.drop k).length = es.length - k := List.length_drop
  have HD := Lib.hid hD
  have hn1 := Blk.ne_ k1 hB (by decide)
  have hn2 := Blk.ne_ k2 hB (by decide)
  have HE := Lib.hid hE
  have HB := Lib.hid hB
  clear hE hB k1 k2 ok hD
  by_cases hck : c = k
  · subst hck
    go_enter Try.func32, Try.ntmps32
    go_wp2_with fail
    have hS : Hold2 (g2, 0, .pointer (some ⟨b, 0, none⟩)) (g1, 0, .int .u64 m') w.drew := ⟨m0, b0⟩
    have hT : noLate [12, 15] (Array.replicate 16 false) = true → Hold1 (b, 1, .slice p es.length c) w.drew := fun _ => a1
    refine begin_D [12, 15] (by kernel_rfl) hS hT ?_
    replace hT := hT rfl
    refine take_S (v := ?v0a) 0 rfl (by kernel_rfl) (by kernel_rfl) (by kernel_rfl) (by kernel_rfl) (fun _ _ _ h => h) hS (fun _ => hT) rfl (fun w' hq => ?h0a) ?_
    case h0a => obtain ⟨hq0, hq1⟩ := hq; change _ = some _ at hq0; change _ = some _ at hq1; go_simp; try with_reducible rfl
    try simp only [Act.put, List.setIfInBounds_toArray, List.set_cons_zero, List.set_cons_succ]
    refine take_S (v := ?v1a) 1 rfl (by kernel_rfl) (by kernel_rfl) (by kernel_rfl) (by kernel_rfl) (fun _ _ _ h => h) hS (fun _ => hT) rfl (fun w' hq => ?h1a) ?_
    case h1a => obtain ⟨hq0, hq1⟩ := hq; change _ = some _ at hq0; change _ = some _ at hq1; go_simp; try with_reducible rfl
    try simp only [Act.put, List.setIfInBounds_toArray, List.set_cons_zero, List.set_cons_succ]
    refine take_S (v := ?v2a) 2 rfl (by kernel_rfl) (by kernel_rfl) (by kernel_rfl) (by kernel_rfl) (fun _ _ _ h => h) hS (fun _ => hT) rfl (fun w' hq => ?h2a) ?_
    case h2a => obtain ⟨hq0, hq1⟩ := hq; change _ = some _ at hq0; change _ = some _ at hq1; go_simp; try with_reducible rfl
    try simp only [Act.put, List.setIfInBounds_toArray, List.set_cons_zero, List.set_cons_succ]
    refine take_S (v := ?v3a) 3 rfl (by kernel_rfl) (by kernel_rfl) (by kernel_rfl) (by kernel_rfl) (fun _ _ _ h => h) hS (fun _ => hT) rfl (fun w' hq => ?h3a) ?_
    case h3a => obtain ⟨hq0, hq1⟩ := hq; change _ = some _ at hq0; change _ = some _ at hq1; go_simp; try with_reducible rfl
    try simp only [Act.put, List.setIfInBounds_toArray, List.set_cons_zero, List.set_cons_succ]
    refine take_S (v := ?v4a) 4 rfl (by kernel_rfl) (by kernel_rfl) (by kernel_rfl) (by kernel_rfl) (fun _ _ _ h => h) hS (fun _ => hT) rfl (fun w' hq => ?h4a) ?_
    case h4a => obtain ⟨hq0, hq1⟩ := hq; change _ = some _ at hq0; change _ = some _ at hq1; go_simp; try with_reducible rfl
    try simp only [Act.put, List.setIfInBounds_toArray, List.set_cons_zero, List.set_cons_succ]
    refine take_S (v := ?v5a) 5 rfl (by kernel_rfl) (by kernel_rfl) (by kernel_rfl) (by kernel_rfl) (fun _ _ _ h => h) hS (fun _ => hT) rfl (fun w' hq => ?h5a) ?_
    case h5a => obtain ⟨hq0, hq1⟩ := hq; change _ = some _ at hq0; change _ = some _ at hq1; go_simp; try with_reducible rfl
    try simp only [Act.put, List.setIfInBounds_toArray, List.set_cons_zero, List.set_cons_succ]
    refine take_T (v := ?v6a) 6 rfl (by kernel_rfl) (by kernel_rfl) (by kernel_rfl) (by kernel_rfl) (by kernel_rfl) (by kernel_rfl) (fun _ _ _ h => h) hS (fun _ => hT) rfl (fun w' hq hr => ?h6a) ?_
    case h6a => obtain ⟨hq0, hq1⟩ := hq; change _ = some _ at hq0; change _ = some _ at hq1; change _ = some _ at hr; go_simp; try with_reducible rfl
    try simp only [Act.put, List.setIfInBounds_toArray, List.set_cons_zero, List.set_cons_succ]
    refine take_S (v := ?v7a) 7 rfl (by kernel_rfl) (by kernel_rfl) (by kernel_rfl) (by kernel_rfl) (fun _ _ _ h => h) hS (fun _ => hT) rfl (fun w' hq => ?h7a) ?_
    case h7a => obtain ⟨hq0, hq1⟩ := hq; change _ = some _ at hq0; change _ = some _ at hq1; go_simp; try with_reducible rfl
    try simp only [Act.put, List.setIfInBounds_toArray, List.set_cons_zero, List.set_cons_succ]
    refine take_S (v := ?v8a) 8 rfl (by kernel_rfl) (by kernel_rfl) (by kernel_rfl) (by kernel_rfl) (fun _ _ _ h => h) hS (fun _ => hT) rfl (fun w' hq => ?h8a) ?_
    case h8a => obtain ⟨hq0, hq1⟩ := hq; change _ = some _ at hq0; change _ = some _ at hq1; go_simp; try with_reducible rfl
    try simp only [Act.put, List.setIfInBounds_toArray, List.set_cons_zero, List.set_cons_succ]
    refine one_D 9 rfl (by kernel_rfl) (fun K hK => ?_)
    go_simp
    have hcut := EntsRd.cut HE.out hk
    rw [if_pos rfl, Nat.sub_self] at hcut
    obtain ⟨cs, hr, hEl⟩ := hcut
    rw [HD.out] at hr
    refine (slices_Clone_E (S := S) (cs := cs) (Rd.drew hr) (Els.one hEl (EntR.one CmdRd.one) (by decide)) (by omega)).mono ?_
    rintro x w1 ⟨p1, c1, rfl, hown, hbl⟩
    have kB := Blk.below (Blk.drew HB.out) hbl
    have hS1 : Hold2 (g2, 0, .pointer (some ⟨b, 0, none⟩)) (g1, 0, .int .u64 m') w1 := ⟨(hbl.cell (p := ⟨g2, 0, none⟩) hz2).trans m0, (hbl.cell (p := ⟨g1, 0, none⟩) hz1).trans b0⟩
    obtain ⟨s0, s1, s2, t0, t1, t2, hz3⟩ := kB.c3
    have hT1 : Hold1 (b, 1, .slice p es.length c) w1 := s1
    have KB := Lib.hid kB
    have Ho := Lib.hid hown
    have Hb := Lib.hid hbl
    have HEl := Lib.hid hEl
    clear hr hEl kB hown hbl
    refine hK.out _ _ hS1 (fun _ => hT1) ?_
    clear hK hS hT
    refine take_S (v := ?v10a) 10 rfl (by kernel_rfl) (by kernel_rfl) (by kernel_rfl) (by kernel_rfl) (fun _ _ _ h => h) hS1 (fun _ => hT1) rfl (fun w' hq => ?h10a) ?_
    case h10a => obtain ⟨hq0, hq1⟩ := hq; change _ = some _ at hq0; change _ = some _ at hq1; go_simp; try with_reducible rfl
    try simp only [Act.put, List.setIfInBounds_toArray, List.set_cons_zero, List.set_cons_succ]
    refine take_S (v := ?v11a) 11 rfl (by kernel_rfl) (by kernel_rfl) (by kernel_rfl) (by kernel_rfl) (fun _ _ _ h => h) hS1 (fun _ => hT1) rfl (fun w' hq => ?h11a) ?_
    case h11a => obtain ⟨hq0, hq1⟩ := hq; change _ = some _ at hq0; change _ = some _ at hq1; go_simp; try with_reducible rfl
    try simp only [Act.put, List.setIfInBounds_toArray, List.set_cons_zero, List.set_cons_succ]
    refine one_D 12 rfl (by kernel_rfl) (fun K hK => ?_)
    go_simp
    have hS2 : Hold2 (g2, 0, .pointer (some ⟨b, 0, none⟩)) (g1, 0, .int .u64 m') (w1.setCell ⟨b, 0, none⟩ (.int .u64 m')) := ⟨(cell_far hn2).trans hS1.1, (cell_far hn1).trans hS1.2⟩
    refine hK.out _ _ hS2 (fun h => absurd h (by decide)) ?_
    clear hK hS1 hT1
    refine take_S (v := ?v13a) 13 rfl (by kernel_rfl) (by kernel_rfl) (by kernel_rfl) (by kernel_rfl) (fun _ _ _ h => h) hS2 (fun h => absurd h (by decide)) rfl (fun w' hq => ?h13a) ?_
    case h13a => obtain ⟨hq0, hq1⟩ := hq; change _ = some _ at hq0; change _ = some _ at hq1; go_simp; try with_reducible rfl
    try simp only [Act.put, List.setIfInBounds_toArray, List.set_cons_zero, List.set_cons_succ]
    refine take_S (v := ?v14a) 14 rfl (by kernel_rfl) (by kernel_rfl) (by kernel_rfl) (by kernel_rfl) (fun _ _ _ h => h) hS2 (fun h => absurd h (by decide)) rfl (fun w' hq => ?h14a) ?_
    case h14a => obtain ⟨hq0, hq1⟩ := hq; change _ = some _ at hq0; change _ = some _ at hq1; go_simp; try with_reducible rfl
    try simp only [Act.put, List.setIfInBounds_toArray, List.set_cons_zero, List.set_cons_succ]
    refine one_D 15 rfl (by kernel_rfl) (fun K hK => ?_)
    go_simp
    refine hK.out _ _ ⟨(cell_far hn2).trans hS2.1, (cell_far hn1).trans hS2.2⟩ (fun h => absurd h (by decide)) ?_
    refine done_D (by kernel_rfl) ?_ _
    go_wp2_with fail
    refine bodyPost_end (results_none rfl _ _ _) rfl ⟨rfl, ?_⟩
    have kb4 : Blk (w1.setCell ⟨b, 0, none⟩ (.int .u64 m')) b 56 #[.int .u64 m', .slice p es.length c, .bool true] := by simpa using KB.out.set_ 0 (.int .u64 m')
    have e1 : ∀ j, j < w.heap.size → w1.heap[j]? = w.heap[j]? := fun j hj => Hb.out.block j hj
    have hsz : (w1.setCell ⟨b, 0, none⟩ (.int .u64 m')).heap.size = w1.heap.size := by simp [World.setCell]
    have h := LogAt.stored (w := w) (S := S) (es := es.drop c) (p := p1) (c := c1) hz kb4 ⟨(cs : List Value), ?_, ?_⟩ hSb (fun j hj hjb => (heap_setCell_other w1 ⟨b, 0, none⟩ j _ hjb).trans (e1 j hj)) Hb.out.os Hb.out.tape Hb.out.output (by have := Hb.out.size; rw [hsz]; exact this)
    · rw [HD.out] at h
      exact ⟨h.1, h.2.1⟩
    · rw [HD.out]
      refine Rd.weak (Rd.of_own (own_set Ho.out KB.out (by decide) _ _)) (fun j hj _ => .inr ⟨hj.1, hj.2⟩) (by decide)
    · refine HEl.out.imp fun c e _ ⟨s, hs, hq⟩ => ⟨s, hs, Rd.keep hq (fun j hj hSj => (heap_setCell_other w1 ⟨b, 0, none⟩ j _ ?_).trans (e1 j hj)) (fun j hSj hj => .inl ⟨hSj, hj⟩) (by decide)⟩
      rintro rfl
      exact hSb hSj
  · go_enter Try.func32, Try.ntmps32
    go_wp2_with fail
    have hS : Hold2 (g2, 0, .pointer (some ⟨b, 0, none⟩)) (g1, 0, .int .u64 m') w.drew := ⟨m0, b0⟩
    have hT : noLate [12, 15] (Array.replicate 16 false) = true → Hold1 (b, 1, .slice p es.length c) w.drew := fun _ => a1
    refine begin_D [12, 15] (by kernel_rfl) hS hT ?_
    replace hT := hT rfl
    refine take_S (v := ?v0b) 0 rfl (by kernel_rfl) (by kernel_rfl) (by kernel_rfl) (by kernel_rfl) (fun _ _ _ h => h) hS (fun _ => hT) rfl (fun w' hq => ?h0b) ?_
    case h0b => obtain ⟨hq0, hq1⟩ := hq; change _ = some _ at hq0; change _ = some _ at hq1; go_simp; try with_reducible rfl
    try simp only [Act.put, List.setIfInBounds_toArray, List.set_cons_zero, List.set_cons_succ]
    refine take_S (v := ?v1b) 1 rfl (by kernel_rfl) (by kernel_rfl) (by kernel_rfl) (by kernel_rfl) (fun _ _ _ h => h) hS (fun _ => hT) rfl (fun w' hq => ?h1b) ?_
    case h1b => obtain ⟨hq0, hq1⟩ := hq; change _ = some _ at hq0; change _ = some _ at hq1; go_simp; try with_reducible rfl
    try simp only [Act.put, List.setIfInBounds_toArray, List.set_cons_zero, List.set_cons_succ]
    refine take_S (v := ?v2b) 2 rfl (by kernel_rfl) (by kernel_rfl) (by kernel_rfl) (by kernel_rfl) (fun _ _ _ h => h) hS (fun _ => hT) rfl (fun w' hq => ?h2b) ?_
    case h2b => obtain ⟨hq0, hq1⟩ := hq; change _ = some _ at hq0; change _ = some _ at hq1; go_simp; try with_reducible rfl
    try simp only [Act.put, List.setIfInBounds_toArray, List.set_cons_zero, List.set_cons_succ]
    refine take_S (v := ?v3b) 3 rfl (by kernel_rfl) (by kernel_rfl) (by kernel_rfl) (by kernel_rfl) (fun _ _ _ h => h) hS (fun _ => hT) rfl (fun w' hq => ?h3b) ?_
    case h3b => obtain ⟨hq0, hq1⟩ := hq; change _ = some _ at hq0; change _ = some _ at hq1; go_simp; try with_reducible rfl
    try simp only [Act.put, List.setIfInBounds_toArray, List.set_cons_zero, List.set_cons_succ]
    refine take_S (v := ?v4b) 4 rfl (by kernel_rfl) (by kernel_rfl) (by kernel_rfl) (by kernel_rfl) (fun _ _ _ h => h) hS (fun _ => hT) rfl (fun w' hq => ?h4b) ?_
    case h4b => obtain ⟨hq0, hq1⟩ := hq; change _ = some _ at hq0; change _ = some _ at hq1; go_simp; try with_reducible rfl
    try simp only [Act.put, List.setIfInBounds_toArray, List.set_cons_zero, List.set_cons_succ]
    refine take_S (v := ?v5b) 5 rfl (by kernel_rfl) (by kernel_rfl) (by kernel_rfl) (by kernel_rfl) (fun _ _ _ h => h) hS (fun _ => hT) rfl (fun w' hq => ?h5b) ?_
    case h5b => obtain ⟨hq0, hq1⟩ := hq; change _ = some _ at hq0; change _ = some _ at hq1; go_simp; try with_reducible rfl
    try simp only [Act.put, List.setIfInBounds_toArray, List.set_cons_zero, List.set_cons_succ]
    refine take_T (v := ?v6b) 6 rfl (by kernel_rfl) (by kernel_rfl) (by kernel_rfl) (by kernel_rfl) (by kernel_rfl) (by kernel_rfl) (fun _ _ _ h => h) hS (fun _ => hT) rfl (fun w' hq hr => ?h6b) ?_
    case h6b => obtain ⟨hq0, hq1⟩ := hq; change _ = some _ at hq0; change _ = some _ at hq1; change _ = some _ at hr; go_simp; try with_reducible rfl
    try simp only [Act.put, List.setIfInBounds_toArray, List.set_cons_zero, List.set_cons_succ]
    refine take_S (v := ?v7b) 7 rfl (by kernel_rfl) (by kernel_rfl) (by kernel_rfl) (by kernel_rfl) (fun _ _ _ h => h) hS (fun _ => hT) rfl (fun w' hq => ?h7b) ?_
    case h7b => obtain ⟨hq0, hq1⟩ := hq; change _ = some _ at hq0; change _ = some _ at hq1; go_simp; try with_reducible rfl
    try simp only [Act.put, List.setIfInBounds_toArray, List.set_cons_zero, List.set_cons_succ]
    refine take_S (v := ?v8b) 8 rfl (by kernel_rfl) (by kernel_rfl) (by kernel_rfl) (by kernel_rfl) (fun _ _ _ h => h) hS (fun _ => hT) rfl (fun w' hq => ?h8b) ?_
    case h8b => obtain ⟨hq0, hq1⟩ := hq; change _ = some _ at hq0; change _ = some _ at hq1; go_simp; try with_reducible rfl
    try simp only [Act.put, List.setIfInBounds_toArray, List.set_cons_zero, List.set_cons_succ]
    refine one_D 9 rfl (by kernel_rfl) (fun K hK => ?_)
    go_simp
    have hcut := EntsRd.cut HE.out hk
    rw [if_neg hck] at hcut
    obtain ⟨cs, hr, hEl⟩ := hcut
    rw [HD.out] at hr
    refine (slices_Clone_E (S := S) (cs := cs) (Rd.drew hr) (Els.one hEl (EntR.one CmdRd.one) (by decide)) (by omega)).mono ?_
    rintro x w1 ⟨p1, c1, rfl, hown, hbl⟩
    have kB := Blk.below (Blk.drew HB.out) hbl
    have hS1 : Hold2 (g2, 0, .pointer (some ⟨b, 0, none⟩)) (g1, 0, .int .u64 m') w1 := ⟨(hbl.cell (p := ⟨g2, 0, none⟩) hz2).trans m0, (hbl.cell (p := ⟨g1, 0, none⟩) hz1).trans b0⟩
    obtain ⟨s0, s1, s2, t0, t1, t2, hz3⟩ := kB.c3
    have hT1 : Hold1 (b, 1, .slice p es.length c) w1 := s1
    have KB := Lib.hid kB
    have Ho := Lib.hid hown
    have Hb := Lib.hid hbl
    have HEl := Lib.hid hEl
    clear hr hEl kB hown hbl
    refine hK.out _ _ hS1 (fun _ => hT1) ?_
    clear hK hS hT
    refine take_S (v := ?v10b) 10 rfl (by kernel_rfl) (by kernel_rfl) (by kernel_rfl) (by kernel_rfl) (fun _ _ _ h => h) hS1 (fun _ => hT1) rfl (fun w' hq => ?h10b) ?_
    case h10b => obtain ⟨hq0, hq1⟩ := hq; change _ = some _ at hq0; change _ = some _ at hq1; go_simp; try with_reducible rfl
    try simp only [Act.put, List.setIfInBounds_toArray, List.set_cons_zero, List.set_cons_succ]
    refine take_S (v := ?v11b) 11 rfl (by kernel_rfl) (by kernel_rfl) (by kernel_rfl) (by kernel_rfl) (fun _ _ _ h => h) hS1 (fun _ => hT1) rfl (fun w' hq => ?h11b) ?_
    case h11b => obtain ⟨hq0, hq1⟩ := hq; change _ = some _ at hq0; change _ = some _ at hq1; go_simp; try with_reducible rfl
    try simp only [Act.put, List.setIfInBounds_toArray, List.set_cons_zero, List.set_cons_succ]
    refine one_D 12 rfl (by kernel_rfl) (fun K hK => ?_)
    go_simp
    have hS2 : Hold2 (g2, 0, .pointer (some ⟨b, 0, none⟩)) (g1, 0, .int .u64 m') (w1.setCell ⟨b, 0, none⟩ (.int .u64 m')) := ⟨(cell_far hn2).trans hS1.1, (cell_far hn1).trans hS1.2⟩
    refine hK.out _ _ hS2 (fun h => absurd h (by decide)) ?_
    clear hK hS1 hT1
    refine take_S (v := ?v13b) 13 rfl (by kernel_rfl) (by kernel_rfl) (by kernel_rfl) (by kernel_rfl) (fun _ _ _ h => h) hS2 (fun h => absurd h (by decide)) rfl (fun w' hq => ?h13b) ?_
    case h13b => obtain ⟨hq0, hq1⟩ := hq; change _ = some _ at hq0; change _ = some _ at hq1; go_simp; try with_reducible rfl
    try simp only [Act.put, List.setIfInBounds_toArray, List.set_cons_zero, List.set_cons_succ]
    refine take_S (v := ?v14b) 14 rfl (by kernel_rfl) (by kernel_rfl) (by kernel_rfl) (by kernel_rfl) (fun _ _ _ h => h) hS2 (fun h => absurd h (by decide)) rfl (fun w' hq => ?h14b) ?_
    case h14b => obtain ⟨hq0, hq1⟩ := hq; change _ = some _ at hq0; change _ = some _ at hq1; go_simp; try with_reducible rfl
    try simp only [Act.put, List.setIfInBounds_toArray, List.set_cons_zero, List.set_cons_succ]
    refine one_D 15 rfl (by kernel_rfl) (fun K hK => ?_)
    go_simp
    refine hK.out _ _ ⟨(cell_far hn2).trans hS2.1, (cell_far hn1).trans hS2.2⟩ (fun h => absurd h (by decide)) ?_
    refine done_D (by kernel_rfl) ?_ _
    go_wp2_with fail
    refine bodyPost_end (results_none rfl _ _ _) rfl ⟨rfl, ?_⟩
    have kb4 : Blk (w1.setCell ⟨b, 0, none⟩ (.int .u64 m')) b 56 #[.int .u64 m', .slice p es.length c, .bool true] := by simpa using KB.out.set_ 0 (.int .u64 m')
    have e1 : ∀ j, j < w.heap.size → w1.heap[j]? = w.heap[j]? := fun j hj => Hb.out.block j hj
    have hsz : (w1.setCell ⟨b, 0, none⟩ (.int .u64 m')).heap.size = w1.heap.size := by simp [World.setCell]
    have h := LogAt.stored (w := w) (S := S) (es := es.drop k) (p := p1) (c := c1) hz kb4 ⟨(cs : List Value), ?_, ?_⟩ hSb (fun j hj hjb => (heap_setCell_other w1 ⟨b, 0, none⟩ j _ hjb).trans (e1 j hj)) Hb.out.os Hb.out.tape Hb.out.output (by have := Hb.out.size; rw [hsz]; exact this)
    · rw [HD.out] at h
      exact ⟨h.1, h.2.1⟩
    · rw [HD.out]
      refine Rd.weak (Rd.of_own (own_set Ho.out KB.out (by decide) _ _)) (fun j hj _ => .inr ⟨hj.1, hj.2⟩) (by decide)
    · refine HEl.out.imp fun c e _ ⟨s, hs, hq⟩ => ⟨s, hs, Rd.keep hq (fun j hj hSj => (heap_setCell_other w1 ⟨b, 0, none⟩ j _ ?_).trans (e1 j hj)) (fun j hSj hj => .inl ⟨hSj, hj⟩) (by decide)⟩
      rintro rfl
      exact hSb hSj

set_option maxHeartbeats 800000 in
theorem log_Cut {w : World} {S : Nat → Prop} {b k : Nat} {m : Int} {es : List Ent} (hL : LogAt w S b m es) (ok : LogOk m es) (hk : k ≤ es.length) (hSl : ∀ j, S j → j < w.heap.size) :
    Calls Try.prog 18 #[.pointer (some ⟨b, 0, none⟩), .int .u64 (m + k)] w fun x w' => x = .returned (.int .i64 0) ∧ CutTo S b (m + k) (es.drop k) w w' := by
  have hL1 : LogAt ((w.alloc (.cells #[.pointer (some ⟨b, 0, none⟩)] 26)).alloc (.cells #[.int .u64 (m + k)] 22)) S b m es := by
    obtain ⟨p, c, hB, hE, hS⟩ := hL
    exact ⟨p, c, (hB.alloc _).alloc _, hE.keep (fun k hk _ => (Below.heap_alloc _ _ _ (by simp; omega)).trans (Below.heap_alloc _ _ _ hk)) (fun _ h _ => h), hS⟩
  have k2 := Blk.alloc (Blk.new w 26 #[.pointer (some ⟨b, 0, none⟩)]) (.cells #[.int .u64 (m + k)] 22)
  have k1 := Blk.new (w.alloc (.cells #[.pointer (some ⟨b, 0, none⟩)] 26)) 22 #[.int .u64 (m + k)]
  rw [World.size_alloc] at k1
  have hbz : b < w.heap.size := by obtain ⟨p, c, hB, -⟩ := hL; exact hB.lt
  have hB := hL1
  obtain ⟨p, c, hB, -⟩ := hB
  have h1 := cut_1 hL1 ok k1 k2 hk
  have Ok := Lib.hid ok
  have HB := Lib.hid hB
  have H1 := Lib.hid h1
  have HSl := Lib.hid hSl
  clear hL1 hL ok k1 k2 hB h1 hSl
  go_enter Try.func18, Try.ntmps18
  go_wp2_with fail
  refine (log_at_ok (R := fun w0 w' => CutTo S b (m + k) (es.drop k) w0 w') HB.out Ok.out.low Ok.out.high Ok.out.len (by omega) (by omega) (by omega) (enter_f 32 (by kernel_rfl)) ?_).mono ?_
  · have e : m + (k : Int) - m = k := by omega
    rw [e]
    exact H1.out
  rintro x w1 ⟨rfl, hc⟩
  have Hc := Lib.hid hc
  clear hc
  go_wp2_with fail
  go_ret
  exact ⟨rfl, CutTo.from_ Hc.out ((((Below.refl _ w).alloc (Nat.le_refl _) _).alloc (by simp) _)) HSl.out hbz⟩

end Go.Proofs.Yteijpcedggkdpaa
