/-
  The chapter's rows of packs: wakes is true. No condition. (Printed by wip/gen_wakes24.py.)
-/
import Derived.Test.YteijpcedggkdpaaJoinNo
import Derived.Test.YteijpcedggkdpaaOrdB
namespace Go.Proofs.Yteijpcedggkdpaa
open Go.RowKit
set_option linter.unusedSimpArgs false
set_option linter.unusedVariables false

def e0 : Ent := ⟨0, 0, 0, []⟩
def es3 : List Ent := [e0, e0, e0]
theorem at_e0 {w : World} (S : Nat → Prop) : EntR (CmdRd w S) [.int .u64 0, .int .u32 0, .int .u64 0, .slice none 0 0] e0 := ⟨.slice none 0 0, rfl, Rd.nil _ _ _⟩
theorem made3 {w : World} {base : Nat} {v : Value} (h : w.ownsRow base 44 4 v 3 (madeCells #[Value.int IntKind.u64 0, Value.int IntKind.u32 0, Value.int IntKind.u64 0, Value.slice none 0 0] 12).toList) :
    EntsRd w (fun k => base ≤ k ∧ k < w.heap.size) v es3 := by
  have hm : (madeCells #[Value.int IntKind.u64 0, Value.int IntKind.u32 0, Value.int IntKind.u64 0, Value.slice none 0 0] 12).toList = [.int .u64 0, .int .u32 0, .int .u64 0, .slice none 0 0, .int .u64 0, .int .u32 0, .int .u64 0, .slice none 0 0, .int .u64 0, .int .u32 0, .int .u64 0, .slice none 0 0] := by kernel_rfl
  rw [hm] at h
  refine ⟨_, Rd.of_own h, rfl, fun i x hx => ?_⟩
  match i, hx with
  | 0, hx => obtain rfl : e0 = x := by simpa [es3] using hx
             exact at_e0 _
  | 1, hx => obtain rfl : e0 = x := by simpa [es3] using hx
             exact at_e0 _
  | 2, hx => obtain rfl : e0 = x := by simpa [es3] using hx
             exact at_e0 _
  | i + 3, hx => simp [es3] at hx

/-- What stands in memory through the rows. -/
structure Row24 (w : World) (g : Nat) (v : Value) (W : World) : Prop where
  b : Below w.heap.size w W
  k1 : Blk W g 31 #[.int .u64 0, .int .u64 8, .int .u64 8, v]
  k2 : Blk W (g + 1) 57 #[.int .u64 10, .int .u64 8]
  k3 : Blk W (g + 2) 58 #[.int .i64 1, .int .i64 3]
  e : EntsRd W (fun k => k < g) v es3
theorem Row24.below {w W W' : World} {g : Nat} {v : Value} (h : Row24 w g v W) (hX : Below W.heap.size W W') : Row24 w g v W' :=
  ⟨h.b.trans (hX.mono h.b.size), h.k1.below hX, h.k2.below hX, h.k3.below hX, EntsRd.below h.e hX⟩

theorem At_Len {W0 w : World} {b : Nat} {m n : Int} {es : List Ent} (h : At W0 w b m es) (hn : (es.length : Int) = n) :
    Calls Try.prog 22 #[.pointer (some ⟨b, 0, none⟩)] w fun e w' => e = .returned (.int .i64 n) ∧ w = w' := by
  obtain ⟨p, c, hB⟩ := h.blk
  subst hn
  exact log_Len hB
theorem nil_ents (w : World) : EntsRd w (fun _ => False) (.slice none 0 0) [] := ⟨[], Rd.nil _ _ _, Els.nil _ _⟩
theorem fits_nil : Fits [] := fun e h => by cases h
theorem fits3 : Fits es3 := by
  intro e h
  simp [es3] at h
  subst h
  exact Nat.zero_le _
theorem okNil {m : Int} (h0 : 0 ≤ m) (h1 : m ≤ 4611686018427387904) : LogOk m [] := ⟨fits_nil, Nat.zero_le _, h0, h1⟩

theorem ix0 (w : World) : Sem.run Try.prog (Instr.index 57 (Value.agg #[Value.int IntKind.u64 10, Value.int IntKind.u64 4]) (Value.int IntKind.i64 0)) w = .ok (.int .u64 10) w := by kernel_rfl
theorem ix1 (w : World) : Sem.run Try.prog (Instr.index 57 (Value.agg #[Value.int IntKind.u64 10, Value.int IntKind.u64 4]) (Value.int IntKind.i64 1)) w = .ok (.int .u64 4) w := by kernel_rfl

set_option maxHeartbeats 3200000 in
set_option maxRecDepth 100000 in
theorem wakes_true {w : World} : Calls Try.prog 6 #[] w fun x w' => x = .returned (.bool true) ∧ Below w.heap.size w w' := by
  obtain ⟨i0, hi, iz0, iz1, iz2⟩ := info_parts infoE
  go_enter Try.func6, Try.ntmps6
  go_wp2_with (at_make; refine wpList_make_full _ rfl _ _ 23 rfl w.heap.size 44 i0 (.agg #[.int .u64 0, .int .u32 0, .int .u64 0, .slice none 0 0]) 4 Try.underlying23 hi iz0 iz1 .i64 .i64 3 3 3 rfl rfl rfl rfl ?c1 ?c2 ?c3 ?_)
  case c1 => rw [iz2]; decide
  case c2 => unfold maxLen; decide
  case c3 => exact Nat.le_refl _
  intro w1 hown hgr
  have HO := Lib.hid hown
  have HG := Lib.hid hgr
  clear hown hgr hi iz0 iz1 iz2
  go_wp2_with fail
  go_loopw [21] (fun i wr => ∃ k : Nat, k ≤ 2 ∧ i = .int .i64 k ∧ Row24 w w1.heap.size (.slice (some ⟨w.heap.size, 0, none⟩) 3 3) wr) (fun i _ => 2 - (intOf i).toNat)
  case atStart =>
    refine ⟨0, by omega, rfl, ?_⟩
    have hb1 : Below w.heap.size w w1 := (Below.refl _ w).grown HG.out (Nat.le_refl _) (by intro k hk; cases hk)
    have ha := Below.alloc (Below.alloc (Below.alloc (Below.refl w1.heap.size w1) (Nat.le_refl _) (.cells #[.int .u64 0, .int .u64 8, .int .u64 8, .slice (some ⟨w.heap.size, 0, none⟩) 3 3] 31)) (by simp) (.cells #[.int .u64 10, .int .u64 8] 57)) (by simp; omega) (.cells #[.int .i64 1, .int .i64 3] 58)
    refine ⟨hb1.trans (ha.mono hb1.size), ((Blk.new w1 _ _).alloc _).alloc _, ?_, ?_, ?_⟩
    · have h := (Blk.new (w1.alloc (.cells #[.int .u64 0, .int .u64 8, .int .u64 8, .slice (some ⟨w.heap.size, 0, none⟩) 3 3] 31)) 57 #[.int .u64 10, .int .u64 8]).alloc (.cells #[.int .i64 1, .int .i64 3] 58)
      rw [World.size_alloc] at h
      exact h
    · have h := Blk.new ((w1.alloc (.cells #[.int .u64 0, .int .u64 8, .int .u64 8, .slice (some ⟨w.heap.size, 0, none⟩) 3 3] 31)).alloc (.cells #[.int .u64 10, .int .u64 8] 57)) 58 #[.int .i64 1, .int .i64 3]
      rw [World.size_alloc, World.size_alloc] at h
      exact h
    · exact ((made3 HO.out).keep (fun _ _ _ => rfl) (fun k hk _ => hk.2)).below ha
  case round =>
    obtain ⟨k, hk, rfl, hrow⟩ := hrel
    have HR := Lib.hid hrow
    clear hrow HO HG
    by_cases h2 : k < 2
    · by_cases h1 : k < 1
      · obtain rfl : k = 0 := by omega
        clear h1 h2 hk
        have ix := fun w => ix0 w
        go_wp2_with fail
        clear ix
        refine (log_New (m := 10) (nil_ents wr) fits_nil (by decide) (by decide)).mono ?_
        rintro x w2 ⟨b, rfl, hN⟩
        have HA := Lib.hid (At.new hN HR.out.b)
        have HR2 := Lib.hid (HR.out.below hN.2.2.2)
        clear hN HR
        obtain ⟨m0, m1, m2, m3, -, -, -, -, hz⟩ := HR2.out.k1.c4
        go_wp2_with fail
        refine (pack_Join (a := 0) (b := 8) (c := 8) (S := fun k => k < w1.heap.size) (M := 10) (K := 2) HA.out (okNil (by decide) (by decide)) HR2.out.e fits3 (by decide) (by decide) (by decide) (by decide) (by decide) (by decide) (by decide) (by decide)).mono ?_
        rintro x w3 ⟨l, rfl, hJ, -, hX⟩
        have HJ := Lib.hid (show At w w3 l 10 [e0] from hJ)
        have HR3 := Lib.hid (HR2.out.below hX)
        clear hJ hX HR2 HA m0 m1 m2 m3 hz
        obtain ⟨p0, p1, -, -, hp⟩ := HR3.out.k2.c2
        obtain ⟨q0, q1, -, -, hq'⟩ := HR3.out.k3.c2
        go_wp2_with fail
        have hS : Hold2 (w1.heap.size + 1, 0, .int .u64 10) (w1.heap.size + 2, 0, .int .i64 1) w3.drew := ⟨p0, q0⟩
        have hT : Hold0 w3.drew := trivial
        refine begin_D [] (by kernel_rfl) hS (fun _ => hT) ?_
        refine take_S (v := ?v0a) 0 rfl (by kernel_rfl) (by kernel_rfl) (by kernel_rfl) (by kernel_rfl) (fun _ _ _ h => h) hS (fun _ => trivial) rfl (fun w' hq => ?h0a) ?_
        case h0a => obtain ⟨hq0, hq1⟩ := hq; change _ = some _ at hq0; change _ = some _ at hq1; go_simp; try with_reducible rfl
        try simp only [Act.put, List.setIfInBounds_toArray, List.set_cons_zero, List.set_cons_succ, List.getElem_toArray, List.getElem_cons_succ, List.getElem_cons_zero]
        refine take_S (v := ?v1a) 1 rfl (by kernel_rfl) (by kernel_rfl) (by kernel_rfl) (by kernel_rfl) (fun _ _ _ h => h) hS (fun _ => trivial) rfl (fun w' hq => ?h1a) ?_
        case h1a => obtain ⟨hq0, hq1⟩ := hq; change _ = some _ at hq0; change _ = some _ at hq1; go_simp; try with_reducible rfl
        try simp only [Act.put, List.setIfInBounds_toArray, List.set_cons_zero, List.set_cons_succ, List.getElem_toArray, List.getElem_cons_succ, List.getElem_cons_zero]
        refine take_S (v := ?v2a) 2 rfl (by kernel_rfl) (by kernel_rfl) (by kernel_rfl) (by kernel_rfl) (fun _ _ _ h => h) hS (fun _ => trivial) rfl (fun w' hq => ?h2a) ?_
        case h2a => obtain ⟨hq0, hq1⟩ := hq; change _ = some _ at hq0; change _ = some _ at hq1; go_simp; try with_reducible rfl
        try simp only [Act.put, List.setIfInBounds_toArray, List.set_cons_zero, List.set_cons_succ, List.getElem_toArray, List.getElem_cons_succ, List.getElem_cons_zero]
        refine take_S (v := ?v3a) 3 rfl (by kernel_rfl) (by kernel_rfl) (by kernel_rfl) (by kernel_rfl) (fun _ _ _ h => h) hS (fun _ => trivial) rfl (fun w' hq => ?h3a) ?_
        case h3a => obtain ⟨hq0, hq1⟩ := hq; change _ = some _ at hq0; change _ = some _ at hq1; go_simp; try with_reducible rfl
        try simp only [Act.put, List.setIfInBounds_toArray, List.set_cons_zero, List.set_cons_succ, List.getElem_toArray, List.getElem_cons_succ, List.getElem_cons_zero]
        refine take_S (v := ?v4a) 4 rfl (by kernel_rfl) (by kernel_rfl) (by kernel_rfl) (by kernel_rfl) (fun _ _ _ h => h) hS (fun _ => trivial) rfl (fun w' hq => ?h4a) ?_
        case h4a => obtain ⟨hq0, hq1⟩ := hq; change _ = some _ at hq0; change _ = some _ at hq1; go_simp; try with_reducible rfl
        try simp only [Act.put, List.setIfInBounds_toArray, List.set_cons_zero, List.set_cons_succ, List.getElem_toArray, List.getElem_cons_succ, List.getElem_cons_zero]
        refine take_S (v := ?v5a) 5 rfl (by kernel_rfl) (by kernel_rfl) (by kernel_rfl) (by kernel_rfl) (fun _ _ _ h => h) hS (fun _ => trivial) rfl (fun w' hq => ?h5a) ?_
        case h5a => obtain ⟨hq0, hq1⟩ := hq; change _ = some _ at hq0; change _ = some _ at hq1; go_simp; try with_reducible rfl
        try simp only [Act.put, List.setIfInBounds_toArray, List.set_cons_zero, List.set_cons_succ, List.getElem_toArray, List.getElem_cons_succ, List.getElem_cons_zero]
        refine take_S (v := ?v6a) 6 rfl (by kernel_rfl) (by kernel_rfl) (by kernel_rfl) (by kernel_rfl) (fun _ _ _ h => h) hS (fun _ => trivial) rfl (fun w' hq => ?h6a) ?_
        case h6a => obtain ⟨hq0, hq1⟩ := hq; change _ = some _ at hq0; change _ = some _ at hq1; go_simp; try with_reducible rfl
        try simp only [Act.put, List.setIfInBounds_toArray, List.set_cons_zero, List.set_cons_succ, List.getElem_toArray, List.getElem_cons_succ, List.getElem_cons_zero]
        refine take_S (v := ?v7a) 7 rfl (by kernel_rfl) (by kernel_rfl) (by kernel_rfl) (by kernel_rfl) (fun _ _ _ h => h) hS (fun _ => trivial) rfl (fun w' hq => ?h7a) ?_
        case h7a => obtain ⟨hq0, hq1⟩ := hq; change _ = some _ at hq0; change _ = some _ at hq1; go_simp; try with_reducible rfl
        try simp only [Act.put, List.setIfInBounds_toArray, List.set_cons_zero, List.set_cons_succ, List.getElem_toArray, List.getElem_cons_succ, List.getElem_cons_zero]
        refine take_S (v := ?v9a) 9 rfl (by kernel_rfl) (by kernel_rfl) (by kernel_rfl) (by kernel_rfl) (fun _ _ _ h => h) hS (fun _ => trivial) rfl (fun w' hq => ?h9a) ?_
        case h9a => obtain ⟨hq0, hq1⟩ := hq; change _ = some _ at hq0; change _ = some _ at hq1; go_simp; try with_reducible rfl
        try simp only [Act.put, List.setIfInBounds_toArray, List.set_cons_zero, List.set_cons_succ, List.getElem_toArray, List.getElem_cons_succ, List.getElem_cons_zero]
        refine take_S (v := ?v10a) 10 rfl (by kernel_rfl) (by kernel_rfl) (by kernel_rfl) (by kernel_rfl) (fun _ _ _ h => h) hS (fun _ => trivial) rfl (fun w' hq => ?h10a) ?_
        case h10a => obtain ⟨hq0, hq1⟩ := hq; change _ = some _ at hq0; change _ = some _ at hq1; go_simp; try with_reducible rfl
        try simp only [Act.put, List.setIfInBounds_toArray, List.set_cons_zero, List.set_cons_succ, List.getElem_toArray, List.getElem_cons_succ, List.getElem_cons_zero]
        refine take_S (v := ?v11a) 11 rfl (by kernel_rfl) (by kernel_rfl) (by kernel_rfl) (by kernel_rfl) (fun _ _ _ h => h) hS (fun _ => trivial) rfl (fun w' hq => ?h11a) ?_
        case h11a => obtain ⟨hq0, hq1⟩ := hq; change _ = some _ at hq0; change _ = some _ at hq1; go_simp; try with_reducible rfl
        try simp only [Act.put, List.setIfInBounds_toArray, List.set_cons_zero, List.set_cons_succ, List.getElem_toArray, List.getElem_cons_succ, List.getElem_cons_zero]
        refine one_D 8 rfl (by kernel_rfl) (fun KQ hK => ?_)
        go_simp
        refine (At_Base (HJ.out.below (below_drewN (Below.refl _ w3) 1))).mono ?_
        rintro x w4 ⟨rfl, rfl⟩
        refine hK.out _ _ hS (fun _ => trivial) ?_
        clear hK
        refine take_S (v := ?v12a) 12 rfl (by kernel_rfl) (by kernel_rfl) (by kernel_rfl) (by kernel_rfl) (fun _ _ _ h => h) hS (fun _ => trivial) rfl (fun w' hq => ?h12a) ?_
        case h12a => obtain ⟨hq0, hq1⟩ := hq; change _ = some _ at hq0; change _ = some _ at hq1; go_simp; try with_reducible rfl
        try simp only [Act.put, List.setIfInBounds_toArray, List.set_cons_zero, List.set_cons_succ, List.getElem_toArray, List.getElem_cons_succ, List.getElem_cons_zero]
        refine take_S (v := ?v13a) 13 rfl (by kernel_rfl) (by kernel_rfl) (by kernel_rfl) (by kernel_rfl) (fun _ _ _ h => h) hS (fun _ => trivial) rfl (fun w' hq => ?h13a) ?_
        case h13a => obtain ⟨hq0, hq1⟩ := hq; change _ = some _ at hq0; change _ = some _ at hq1; go_simp; try with_reducible rfl
        try simp only [Act.put, List.setIfInBounds_toArray, List.set_cons_zero, List.set_cons_succ, List.getElem_toArray, List.getElem_cons_succ, List.getElem_cons_zero]
        refine take_S (v := ?v14a) 14 rfl (by kernel_rfl) (by kernel_rfl) (by kernel_rfl) (by kernel_rfl) (fun _ _ _ h => h) hS (fun _ => trivial) rfl (fun w' hq => ?h14a) ?_
        case h14a => obtain ⟨hq0, hq1⟩ := hq; change _ = some _ at hq0; change _ = some _ at hq1; go_simp; try with_reducible rfl
        try simp only [Act.put, List.setIfInBounds_toArray, List.set_cons_zero, List.set_cons_succ, List.getElem_toArray, List.getElem_cons_succ, List.getElem_cons_zero]
        refine take_S (v := ?v15a) 15 rfl (by kernel_rfl) (by kernel_rfl) (by kernel_rfl) (by kernel_rfl) (fun _ _ _ h => h) hS (fun _ => trivial) rfl (fun w' hq => ?h15a) ?_
        case h15a => obtain ⟨hq0, hq1⟩ := hq; change _ = some _ at hq0; change _ = some _ at hq1; go_simp; try with_reducible rfl
        try simp only [Act.put, List.setIfInBounds_toArray, List.set_cons_zero, List.set_cons_succ, List.getElem_toArray, List.getElem_cons_succ, List.getElem_cons_zero]
        refine take_S (v := ?v17a) 17 rfl (by kernel_rfl) (by kernel_rfl) (by kernel_rfl) (by kernel_rfl) (fun _ _ _ h => h) hS (fun _ => trivial) rfl (fun w' hq => ?h17a) ?_
        case h17a => obtain ⟨hq0, hq1⟩ := hq; change _ = some _ at hq0; change _ = some _ at hq1; go_simp; try with_reducible rfl
        try simp only [Act.put, List.setIfInBounds_toArray, List.set_cons_zero, List.set_cons_succ, List.getElem_toArray, List.getElem_cons_succ, List.getElem_cons_zero]
        refine take_S (v := ?v18a) 18 rfl (by kernel_rfl) (by kernel_rfl) (by kernel_rfl) (by kernel_rfl) (fun _ _ _ h => h) hS (fun _ => trivial) rfl (fun w' hq => ?h18a) ?_
        case h18a => obtain ⟨hq0, hq1⟩ := hq; change _ = some _ at hq0; change _ = some _ at hq1; go_simp; try with_reducible rfl
        try simp only [Act.put, List.setIfInBounds_toArray, List.set_cons_zero, List.set_cons_succ, List.getElem_toArray, List.getElem_cons_succ, List.getElem_cons_zero]
        refine take_S (v := ?v19a) 19 rfl (by kernel_rfl) (by kernel_rfl) (by kernel_rfl) (by kernel_rfl) (fun _ _ _ h => h) hS (fun _ => trivial) rfl (fun w' hq => ?h19a) ?_
        case h19a => obtain ⟨hq0, hq1⟩ := hq; change _ = some _ at hq0; change _ = some _ at hq1; go_simp; try with_reducible rfl
        try simp only [Act.put, List.setIfInBounds_toArray, List.set_cons_zero, List.set_cons_succ, List.getElem_toArray, List.getElem_cons_succ, List.getElem_cons_zero]
        refine one_D 16 rfl (by kernel_rfl) (fun KQ hK => ?_)
        go_simp
        refine (At_Len (n := 1) (HJ.out.below (below_drewN (Below.refl _ w3) 1)) rfl).mono ?_
        rintro x w4 ⟨rfl, rfl⟩
        refine hK.out _ _ hS (fun _ => trivial) ?_
        clear hK
        refine take_S (v := ?v20a) 20 rfl (by kernel_rfl) (by kernel_rfl) (by kernel_rfl) (by kernel_rfl) (fun _ _ _ h => h) hS (fun _ => trivial) rfl (fun w' hq => ?h20a) ?_
        case h20a => obtain ⟨hq0, hq1⟩ := hq; change _ = some _ at hq0; change _ = some _ at hq1; go_simp; try with_reducible rfl
        try simp only [Act.put, List.setIfInBounds_toArray, List.set_cons_zero, List.set_cons_succ, List.getElem_toArray, List.getElem_cons_succ, List.getElem_cons_zero]
        refine take_S (v := ?v21a) 21 rfl (by kernel_rfl) (by kernel_rfl) (by kernel_rfl) (by kernel_rfl) (fun _ _ _ h => h) hS (fun _ => trivial) rfl (fun w' hq => ?h21a) ?_
        case h21a => obtain ⟨hq0, hq1⟩ := hq; change _ = some _ at hq0; change _ = some _ at hq1; go_simp; try with_reducible rfl
        try simp only [Act.put, List.setIfInBounds_toArray, List.set_cons_zero, List.set_cons_succ, List.getElem_toArray, List.getElem_cons_succ, List.getElem_cons_zero]
        refine done_D (by kernel_rfl) ?_ _
        have HR4 := Lib.hid (HR3.out.below (below_drewN (Below.refl _ w3) 1))
        clear hS hT p0 p1 q0 q1 hp hq' HR3 HJ
        go_wp2_with fail
        go_roundw
        case rel => exact ⟨1, by omega, rfl, HR4.out⟩
        case measure => decide
      · obtain rfl : k = 1 := by omega
        clear h1 h2 hk
        have ix := fun w => ix1 w
        go_wp2_with fail
        clear ix
        refine (log_New (m := 4) (nil_ents wr) fits_nil (by decide) (by decide)).mono ?_
        rintro x w2 ⟨b, rfl, hN⟩
        have HA := Lib.hid (At.new hN HR.out.b)
        have HR2 := Lib.hid (HR.out.below hN.2.2.2)
        clear hN HR
        obtain ⟨m0, m1, m2, m3, -, -, -, -, hz⟩ := HR2.out.k1.c4
        go_wp2_with fail
        refine (pack_Join (a := 0) (b := 8) (c := 8) (S := fun k => k < w1.heap.size) (M := 8) (K := 0) HA.out (okNil (by decide) (by decide)) HR2.out.e fits3 (by decide) (by decide) (by decide) (by decide) (by decide) (by decide) (by decide) (by decide)).mono ?_
        rintro x w3 ⟨l, rfl, hJ, -, hX⟩
        have HJ := Lib.hid (show At w w3 l 8 es3 from hJ)
        have HR3 := Lib.hid (HR2.out.below hX)
        clear hJ hX HR2 HA m0 m1 m2 m3 hz
        obtain ⟨p0, p1, -, -, hp⟩ := HR3.out.k2.c2
        obtain ⟨q0, q1, -, -, hq'⟩ := HR3.out.k3.c2
        go_wp2_with fail
        have hS : Hold2 (w1.heap.size + 1, 1, .int .u64 8) (w1.heap.size + 2, 1, .int .i64 3) w3.drew := ⟨p1, q1⟩
        have hT : Hold0 w3.drew := trivial
        refine begin_D [] (by kernel_rfl) hS (fun _ => hT) ?_
        refine take_S (v := ?v0b) 0 rfl (by kernel_rfl) (by kernel_rfl) (by kernel_rfl) (by kernel_rfl) (fun _ _ _ h => h) hS (fun _ => trivial) rfl (fun w' hq => ?h0b) ?_
        case h0b => obtain ⟨hq0, hq1⟩ := hq; change _ = some _ at hq0; change _ = some _ at hq1; go_simp; try with_reducible rfl
        try simp only [Act.put, List.setIfInBounds_toArray, List.set_cons_zero, List.set_cons_succ, List.getElem_toArray, List.getElem_cons_succ, List.getElem_cons_zero]
        refine take_S (v := ?v1b) 1 rfl (by kernel_rfl) (by kernel_rfl) (by kernel_rfl) (by kernel_rfl) (fun _ _ _ h => h) hS (fun _ => trivial) rfl (fun w' hq => ?h1b) ?_
        case h1b => obtain ⟨hq0, hq1⟩ := hq; change _ = some _ at hq0; change _ = some _ at hq1; go_simp; try with_reducible rfl
        try simp only [Act.put, List.setIfInBounds_toArray, List.set_cons_zero, List.set_cons_succ, List.getElem_toArray, List.getElem_cons_succ, List.getElem_cons_zero]
        refine take_S (v := ?v2b) 2 rfl (by kernel_rfl) (by kernel_rfl) (by kernel_rfl) (by kernel_rfl) (fun _ _ _ h => h) hS (fun _ => trivial) rfl (fun w' hq => ?h2b) ?_
        case h2b => obtain ⟨hq0, hq1⟩ := hq; change _ = some _ at hq0; change _ = some _ at hq1; go_simp; try with_reducible rfl
        try simp only [Act.put, List.setIfInBounds_toArray, List.set_cons_zero, List.set_cons_succ, List.getElem_toArray, List.getElem_cons_succ, List.getElem_cons_zero]
        refine take_S (v := ?v3b) 3 rfl (by kernel_rfl) (by kernel_rfl) (by kernel_rfl) (by kernel_rfl) (fun _ _ _ h => h) hS (fun _ => trivial) rfl (fun w' hq => ?h3b) ?_
        case h3b => obtain ⟨hq0, hq1⟩ := hq; change _ = some _ at hq0; change _ = some _ at hq1; go_simp; try with_reducible rfl
        try simp only [Act.put, List.setIfInBounds_toArray, List.set_cons_zero, List.set_cons_succ, List.getElem_toArray, List.getElem_cons_succ, List.getElem_cons_zero]
        refine take_S (v := ?v4b) 4 rfl (by kernel_rfl) (by kernel_rfl) (by kernel_rfl) (by kernel_rfl) (fun _ _ _ h => h) hS (fun _ => trivial) rfl (fun w' hq => ?h4b) ?_
        case h4b => obtain ⟨hq0, hq1⟩ := hq; change _ = some _ at hq0; change _ = some _ at hq1; go_simp; try with_reducible rfl
        try simp only [Act.put, List.setIfInBounds_toArray, List.set_cons_zero, List.set_cons_succ, List.getElem_toArray, List.getElem_cons_succ, List.getElem_cons_zero]
        refine take_S (v := ?v5b) 5 rfl (by kernel_rfl) (by kernel_rfl) (by kernel_rfl) (by kernel_rfl) (fun _ _ _ h => h) hS (fun _ => trivial) rfl (fun w' hq => ?h5b) ?_
        case h5b => obtain ⟨hq0, hq1⟩ := hq; change _ = some _ at hq0; change _ = some _ at hq1; go_simp; try with_reducible rfl
        try simp only [Act.put, List.setIfInBounds_toArray, List.set_cons_zero, List.set_cons_succ, List.getElem_toArray, List.getElem_cons_succ, List.getElem_cons_zero]
        refine take_S (v := ?v6b) 6 rfl (by kernel_rfl) (by kernel_rfl) (by kernel_rfl) (by kernel_rfl) (fun _ _ _ h => h) hS (fun _ => trivial) rfl (fun w' hq => ?h6b) ?_
        case h6b => obtain ⟨hq0, hq1⟩ := hq; change _ = some _ at hq0; change _ = some _ at hq1; go_simp; try with_reducible rfl
        try simp only [Act.put, List.setIfInBounds_toArray, List.set_cons_zero, List.set_cons_succ, List.getElem_toArray, List.getElem_cons_succ, List.getElem_cons_zero]
        refine take_S (v := ?v7b) 7 rfl (by kernel_rfl) (by kernel_rfl) (by kernel_rfl) (by kernel_rfl) (fun _ _ _ h => h) hS (fun _ => trivial) rfl (fun w' hq => ?h7b) ?_
        case h7b => obtain ⟨hq0, hq1⟩ := hq; change _ = some _ at hq0; change _ = some _ at hq1; go_simp; try with_reducible rfl
        try simp only [Act.put, List.setIfInBounds_toArray, List.set_cons_zero, List.set_cons_succ, List.getElem_toArray, List.getElem_cons_succ, List.getElem_cons_zero]
        refine take_S (v := ?v9b) 9 rfl (by kernel_rfl) (by kernel_rfl) (by kernel_rfl) (by kernel_rfl) (fun _ _ _ h => h) hS (fun _ => trivial) rfl (fun w' hq => ?h9b) ?_
        case h9b => obtain ⟨hq0, hq1⟩ := hq; change _ = some _ at hq0; change _ = some _ at hq1; go_simp; try with_reducible rfl
        try simp only [Act.put, List.setIfInBounds_toArray, List.set_cons_zero, List.set_cons_succ, List.getElem_toArray, List.getElem_cons_succ, List.getElem_cons_zero]
        refine take_S (v := ?v10b) 10 rfl (by kernel_rfl) (by kernel_rfl) (by kernel_rfl) (by kernel_rfl) (fun _ _ _ h => h) hS (fun _ => trivial) rfl (fun w' hq => ?h10b) ?_
        case h10b => obtain ⟨hq0, hq1⟩ := hq; change _ = some _ at hq0; change _ = some _ at hq1; go_simp; try with_reducible rfl
        try simp only [Act.put, List.setIfInBounds_toArray, List.set_cons_zero, List.set_cons_succ, List.getElem_toArray, List.getElem_cons_succ, List.getElem_cons_zero]
        refine take_S (v := ?v11b) 11 rfl (by kernel_rfl) (by kernel_rfl) (by kernel_rfl) (by kernel_rfl) (fun _ _ _ h => h) hS (fun _ => trivial) rfl (fun w' hq => ?h11b) ?_
        case h11b => obtain ⟨hq0, hq1⟩ := hq; change _ = some _ at hq0; change _ = some _ at hq1; go_simp; try with_reducible rfl
        try simp only [Act.put, List.setIfInBounds_toArray, List.set_cons_zero, List.set_cons_succ, List.getElem_toArray, List.getElem_cons_succ, List.getElem_cons_zero]
        refine one_D 8 rfl (by kernel_rfl) (fun KQ hK => ?_)
        go_simp
        refine (At_Base (HJ.out.below (below_drewN (Below.refl _ w3) 1))).mono ?_
        rintro x w4 ⟨rfl, rfl⟩
        refine hK.out _ _ hS (fun _ => trivial) ?_
        clear hK
        refine take_S (v := ?v12b) 12 rfl (by kernel_rfl) (by kernel_rfl) (by kernel_rfl) (by kernel_rfl) (fun _ _ _ h => h) hS (fun _ => trivial) rfl (fun w' hq => ?h12b) ?_
        case h12b => obtain ⟨hq0, hq1⟩ := hq; change _ = some _ at hq0; change _ = some _ at hq1; go_simp; try with_reducible rfl
        try simp only [Act.put, List.setIfInBounds_toArray, List.set_cons_zero, List.set_cons_succ, List.getElem_toArray, List.getElem_cons_succ, List.getElem_cons_zero]
        refine take_S (v := ?v13b) 13 rfl (by kernel_rfl) (by kernel_rfl) (by kernel_rfl) (by kernel_rfl) (fun _ _ _ h => h) hS (fun _ => trivial) rfl (fun w' hq => ?h13b) ?_
        case h13b => obtain ⟨hq0, hq1⟩ := hq; change _ = some _ at hq0; change _ = some _ at hq1; go_simp; try with_reducible rfl
        try simp only [Act.put, List.setIfInBounds_toArray, List.set_cons_zero, List.set_cons_succ, List.getElem_toArray, List.getElem_cons_succ, List.getElem_cons_zero]
        refine take_S (v := ?v14b) 14 rfl (by kernel_rfl) (by kernel_rfl) (by kernel_rfl) (by kernel_rfl) (fun _ _ _ h => h) hS (fun _ => trivial) rfl (fun w' hq => ?h14b) ?_
        case h14b => obtain ⟨hq0, hq1⟩ := hq; change _ = some _ at hq0; change _ = some _ at hq1; go_simp; try with_reducible rfl
        try simp only [Act.put, List.setIfInBounds_toArray, List.set_cons_zero, List.set_cons_succ, List.getElem_toArray, List.getElem_cons_succ, List.getElem_cons_zero]
        refine take_S (v := ?v15b) 15 rfl (by kernel_rfl) (by kernel_rfl) (by kernel_rfl) (by kernel_rfl) (fun _ _ _ h => h) hS (fun _ => trivial) rfl (fun w' hq => ?h15b) ?_
        case h15b => obtain ⟨hq0, hq1⟩ := hq; change _ = some _ at hq0; change _ = some _ at hq1; go_simp; try with_reducible rfl
        try simp only [Act.put, List.setIfInBounds_toArray, List.set_cons_zero, List.set_cons_succ, List.getElem_toArray, List.getElem_cons_succ, List.getElem_cons_zero]
        refine take_S (v := ?v17b) 17 rfl (by kernel_rfl) (by kernel_rfl) (by kernel_rfl) (by kernel_rfl) (fun _ _ _ h => h) hS (fun _ => trivial) rfl (fun w' hq => ?h17b) ?_
        case h17b => obtain ⟨hq0, hq1⟩ := hq; change _ = some _ at hq0; change _ = some _ at hq1; go_simp; try with_reducible rfl
        try simp only [Act.put, List.setIfInBounds_toArray, List.set_cons_zero, List.set_cons_succ, List.getElem_toArray, List.getElem_cons_succ, List.getElem_cons_zero]
        refine take_S (v := ?v18b) 18 rfl (by kernel_rfl) (by kernel_rfl) (by kernel_rfl) (by kernel_rfl) (fun _ _ _ h => h) hS (fun _ => trivial) rfl (fun w' hq => ?h18b) ?_
        case h18b => obtain ⟨hq0, hq1⟩ := hq; change _ = some _ at hq0; change _ = some _ at hq1; go_simp; try with_reducible rfl
        try simp only [Act.put, List.setIfInBounds_toArray, List.set_cons_zero, List.set_cons_succ, List.getElem_toArray, List.getElem_cons_succ, List.getElem_cons_zero]
        refine take_S (v := ?v19b) 19 rfl (by kernel_rfl) (by kernel_rfl) (by kernel_rfl) (by kernel_rfl) (fun _ _ _ h => h) hS (fun _ => trivial) rfl (fun w' hq => ?h19b) ?_
        case h19b => obtain ⟨hq0, hq1⟩ := hq; change _ = some _ at hq0; change _ = some _ at hq1; go_simp; try with_reducible rfl
        try simp only [Act.put, List.setIfInBounds_toArray, List.set_cons_zero, List.set_cons_succ, List.getElem_toArray, List.getElem_cons_succ, List.getElem_cons_zero]
        refine one_D 16 rfl (by kernel_rfl) (fun KQ hK => ?_)
        go_simp
        refine (At_Len (n := 3) (HJ.out.below (below_drewN (Below.refl _ w3) 1)) rfl).mono ?_
        rintro x w4 ⟨rfl, rfl⟩
        refine hK.out _ _ hS (fun _ => trivial) ?_
        clear hK
        refine take_S (v := ?v20b) 20 rfl (by kernel_rfl) (by kernel_rfl) (by kernel_rfl) (by kernel_rfl) (fun _ _ _ h => h) hS (fun _ => trivial) rfl (fun w' hq => ?h20b) ?_
        case h20b => obtain ⟨hq0, hq1⟩ := hq; change _ = some _ at hq0; change _ = some _ at hq1; go_simp; try with_reducible rfl
        try simp only [Act.put, List.setIfInBounds_toArray, List.set_cons_zero, List.set_cons_succ, List.getElem_toArray, List.getElem_cons_succ, List.getElem_cons_zero]
        refine take_S (v := ?v21b) 21 rfl (by kernel_rfl) (by kernel_rfl) (by kernel_rfl) (by kernel_rfl) (fun _ _ _ h => h) hS (fun _ => trivial) rfl (fun w' hq => ?h21b) ?_
        case h21b => obtain ⟨hq0, hq1⟩ := hq; change _ = some _ at hq0; change _ = some _ at hq1; go_simp; try with_reducible rfl
        try simp only [Act.put, List.setIfInBounds_toArray, List.set_cons_zero, List.set_cons_succ, List.getElem_toArray, List.getElem_cons_succ, List.getElem_cons_zero]
        refine done_D (by kernel_rfl) ?_ _
        have HR4 := Lib.hid (HR3.out.below (below_drewN (Below.refl _ w3) 1))
        clear hS hT p0 p1 q0 q1 hp hq' HR3 HJ
        go_wp2_with fail
        go_roundw
        case rel => exact ⟨2, by omega, rfl, HR4.out⟩
        case measure => decide
    · obtain rfl : k = 2 := by omega
      clear h2 hk
      go_wp2_with fail
      refine (log_New (m := 12) (nil_ents wr) fits_nil (by decide) (by decide)).mono ?_
      rintro x w2 ⟨b, rfl, hN⟩
      have HA := Lib.hid (At.new hN HR.out.b)
      have HR2 := Lib.hid (HR.out.below hN.2.2.2)
      clear hN HR
      obtain ⟨m0, m1, m2, m3, -, -, -, -, hz⟩ := HR2.out.k1.c4
      go_wp2_with fail
      refine (pack_Join_low (a := 0) (b := 8) (c := 8) (S := fun k => k < w1.heap.size) HA.out (okNil (by decide) (by decide)) HR2.out.e (by decide) (by decide) (by decide) (by decide) (by decide)).mono ?_
      rintro x w3 ⟨rfl, hX⟩
      have HR3 := Lib.hid (HR2.out.below hX)
      clear hX HR2 HA m0 m1 m2 m3 hz
      go_wp2_with fail
      have hS : Row24 w w1.heap.size (.slice (some ⟨w.heap.size, 0, none⟩) 3 3) w3.drew := HR3.out.below (below_drewN (Below.refl _ w3) 1)
      have hT : Hold0 w3.drew := trivial
      refine begin_D [] (by kernel_rfl) hS (fun _ => hT) ?_
      refine take_S (v := ?v0z) 0 rfl (by kernel_rfl) (by kernel_rfl) (by kernel_rfl) (by kernel_rfl) (fun _ _ _ h => h) hS (fun _ => trivial) rfl (fun w' hq => ?h0z) ?_
      case h0z => have hk1 := hq.k1; obtain ⟨q0, q1, q2, q3, -, -, -, -, qz⟩ := hk1.c4; go_simp; try with_reducible rfl
      try simp only [Act.put, List.setIfInBounds_toArray, List.set_cons_zero, List.set_cons_succ, List.getElem_toArray, List.getElem_cons_succ, List.getElem_cons_zero]
      refine take_S (v := ?v1z) 1 rfl (by kernel_rfl) (by kernel_rfl) (by kernel_rfl) (by kernel_rfl) (fun _ _ _ h => h) hS (fun _ => trivial) rfl (fun w' hq => ?h1z) ?_
      case h1z => have hk1 := hq.k1; obtain ⟨q0, q1, q2, q3, -, -, -, -, qz⟩ := hk1.c4; go_simp; try with_reducible rfl
      try simp only [Act.put, List.setIfInBounds_toArray, List.set_cons_zero, List.set_cons_succ, List.getElem_toArray, List.getElem_cons_succ, List.getElem_cons_zero]
      refine two_D 2 3 rfl rfl (by kernel_rfl) (fun KQ hK => ?_) (fun KQ hK => ?_)
      · go_simp
        refine hK.out _ _ (hS.below ((Below.refl _ w3.drew).alloc (Nat.le_refl _) _)) (fun _ => trivial) ?_
        clear hK
        refine one_D 3 rfl (by kernel_rfl) (fun KQ hK => ?_)
        go_simp
        refine hK.out _ _ (hS.below (((Below.refl w3.drew.heap.size w3.drew).alloc (Nat.le_refl _) (.cells #[.int .u64 0, .int .u64 0, .int .u64 0, .slice none 0 0] 31)).alloc (by simp) (.cells #[.int .u64 0, .int .u64 0, .int .u64 0, .slice none 0 0] 31))) (fun _ => trivial) ?_
        clear hK
        refine one_D 4 rfl (by kernel_rfl) (fun KQ hK => ?_)
        go_simp
        refine hK.out _ _ (hS.below (((Below.refl w3.drew.heap.size w3.drew).alloc (Nat.le_refl _) (.cells #[.int .u64 0, .int .u64 8, .int .u64 8, .slice (some ⟨w.heap.size, 0, none⟩) 3 3] 31)).alloc (by simp) (.cells #[.int .u64 0, .int .u64 0, .int .u64 0, .slice none 0 0] 31))) (fun _ => trivial) ?_
        clear hK
        refine one_D 5 rfl (by kernel_rfl) (fun KQ hK => ?_)
        go_simp
        refine hK.out _ _ (hS.below (((Below.refl w3.drew.heap.size w3.drew).alloc (Nat.le_refl _) (.cells #[.int .u64 0, .int .u64 8, .int .u64 8, .slice (some ⟨w.heap.size, 0, none⟩) 3 3] 31)).alloc (by simp) (.cells #[.int .u64 0, .int .u64 8, .int .u64 8, .slice (some ⟨w.heap.size, 0, none⟩) 3 3] 31))) (fun _ => trivial) ?_
        clear hK
        refine done_D (by kernel_rfl) ?_ _
        have k1 : Blk ((w3.drew.alloc (.cells #[.int .u64 0, .int .u64 8, .int .u64 7, .slice (some ⟨w.heap.size, 0, none⟩) 3 3] 31)).alloc (.cells #[.int .u64 0, .int .u64 8, .int .u64 12, .slice (some ⟨w.heap.size, 0, none⟩) 3 3] 31)) w3.heap.size 31 #[.int .u64 0, .int .u64 8, .int .u64 7, .slice (some ⟨w.heap.size, 0, none⟩) 3 3] := (Blk.new w3.drew _ _).alloc _
        have k2 : Blk ((w3.drew.alloc (.cells #[.int .u64 0, .int .u64 8, .int .u64 7, .slice (some ⟨w.heap.size, 0, none⟩) 3 3] 31)).alloc (.cells #[.int .u64 0, .int .u64 8, .int .u64 12, .slice (some ⟨w.heap.size, 0, none⟩) 3 3] 31)) (w3.heap.size + 1) 31 #[.int .u64 0, .int .u64 8, .int .u64 12, .slice (some ⟨w.heap.size, 0, none⟩) 3 3] := by
          have h := Blk.new (w3.drew.alloc (.cells #[.int .u64 0, .int .u64 8, .int .u64 7, .slice (some ⟨w.heap.size, 0, none⟩) 3 3] 31)) 31 #[.int .u64 0, .int .u64 8, .int .u64 12, .slice (some ⟨w.heap.size, 0, none⟩) 3 3]
          rw [World.size_alloc] at h
          exact h
        have HR6 := Lib.hid (hS.below (((Below.refl w3.drew.heap.size w3.drew).alloc (Nat.le_refl _) (.cells #[.int .u64 0, .int .u64 8, .int .u64 7, .slice (some ⟨w.heap.size, 0, none⟩) 3 3] 31)).alloc (by simp) (.cells #[.int .u64 0, .int .u64 8, .int .u64 12, .slice (some ⟨w.heap.size, 0, none⟩) 3 3] 31)))
        have KL := Lib.hid k1
        have KH := Lib.hid k2
        obtain ⟨m0, m1, m2, m3, -, -, -, -, hz⟩ := HR3.out.k1.c4
        clear k1 k2 hS hT HR3
        go_wp2_with fail
        refine (pack_Op (n := 3) (by decide)).mono ?_
        rintro x w4 ⟨rfl, hX⟩
        have HR7 := Lib.hid (HR6.out.below hX)
        have KL7 := Lib.hid (Blk.below KL.out hX)
        have KH7 := Lib.hid (Blk.below KH.out hX)
        clear HR6 KL KH m0 m1 m2 m3 hz hX
        obtain ⟨m0, m1, m2, m3, -, -, -, -, hz⟩ := HR7.out.k1.c4
        have ho : IntKind.u64.wrap ((8 : Int) + ((3 : Nat) : Int)) = 11 := by decide
        rw [ho]
        clear ho
        go_wp2_with fail
        refine (pack_May (es := es3) HR7.out.e (by decide) (by decide)).mono ?_
        rintro x w5 ⟨rfl, hX⟩
        have HR8 := Lib.hid (HR7.out.below hX)
        have KL8 := Lib.hid (Blk.below KL7.out hX)
        have KH8 := Lib.hid (Blk.below KH7.out hX)
        clear HR7 KL7 KH7 m0 m1 m2 m3 hz hX
        obtain ⟨m0, m1, m2, m3, -, -, -, -, hz⟩ := KL8.out.c4
        rw [show mayB 0 8 8 es3 = true from by decide]
        go_wp2_with fail
        refine (pack_May (es := es3) HR8.out.e (by decide) (by decide)).mono ?_
        rintro x w6 ⟨rfl, hX⟩
        have HR9 := Lib.hid (HR8.out.below hX)
        have KH9 := Lib.hid (Blk.below KH8.out hX)
        clear HR8 KL8 KH8 m0 m1 m2 m3 hz hX
        obtain ⟨m0, m1, m2, m3, -, -, -, -, hz⟩ := KH9.out.c4
        rw [show mayB 0 8 7 es3 = false from by decide]
        go_wp2_with fail
        refine (pack_May (es := es3) HR9.out.e (by decide) (by decide)).mono ?_
        rintro x w7 ⟨rfl, hX⟩
        have HR10 := Lib.hid (HR9.out.below hX)
        clear HR9 KH9 m0 m1 m2 m3 hz hX
        rw [show mayB 0 8 12 es3 = false from by decide]
        go_wp2_with fail
        go_ret
        exact ⟨rfl, HR10.out.b⟩
      · go_simp
        refine hK.out _ _ (hS.below ((Below.refl _ w3.drew).alloc (Nat.le_refl _) _)) (fun _ => trivial) ?_
        clear hK
        refine one_D 2 rfl (by kernel_rfl) (fun KQ hK => ?_)
        go_simp
        refine hK.out _ _ (hS.below (((Below.refl w3.drew.heap.size w3.drew).alloc (Nat.le_refl _) (.cells #[.int .u64 0, .int .u64 0, .int .u64 0, .slice none 0 0] 31)).alloc (by simp) (.cells #[.int .u64 0, .int .u64 0, .int .u64 0, .slice none 0 0] 31))) (fun _ => trivial) ?_
        clear hK
        refine one_D 4 rfl (by kernel_rfl) (fun KQ hK => ?_)
        go_simp
        refine hK.out _ _ (hS.below (((Below.refl w3.drew.heap.size w3.drew).alloc (Nat.le_refl _) (.cells #[.int .u64 0, .int .u64 0, .int .u64 0, .slice none 0 0] 31)).alloc (by simp) (.cells #[.int .u64 0, .int .u64 8, .int .u64 8, .slice (some ⟨w.heap.size, 0, none⟩) 3 3] 31))) (fun _ => trivial) ?_
        clear hK
        refine one_D 5 rfl (by kernel_rfl) (fun KQ hK => ?_)
        go_simp
        refine hK.out _ _ (hS.below (((Below.refl w3.drew.heap.size w3.drew).alloc (Nat.le_refl _) (.cells #[.int .u64 0, .int .u64 8, .int .u64 8, .slice (some ⟨w.heap.size, 0, none⟩) 3 3] 31)).alloc (by simp) (.cells #[.int .u64 0, .int .u64 8, .int .u64 8, .slice (some ⟨w.heap.size, 0, none⟩) 3 3] 31))) (fun _ => trivial) ?_
        clear hK
        refine done_D (by kernel_rfl) ?_ _
        have k1 : Blk ((w3.drew.alloc (.cells #[.int .u64 0, .int .u64 8, .int .u64 12, .slice (some ⟨w.heap.size, 0, none⟩) 3 3] 31)).alloc (.cells #[.int .u64 0, .int .u64 8, .int .u64 7, .slice (some ⟨w.heap.size, 0, none⟩) 3 3] 31)) w3.heap.size 31 #[.int .u64 0, .int .u64 8, .int .u64 12, .slice (some ⟨w.heap.size, 0, none⟩) 3 3] := (Blk.new w3.drew _ _).alloc _
        have k2 : Blk ((w3.drew.alloc (.cells #[.int .u64 0, .int .u64 8, .int .u64 12, .slice (some ⟨w.heap.size, 0, none⟩) 3 3] 31)).alloc (.cells #[.int .u64 0, .int .u64 8, .int .u64 7, .slice (some ⟨w.heap.size, 0, none⟩) 3 3] 31)) (w3.heap.size + 1) 31 #[.int .u64 0, .int .u64 8, .int .u64 7, .slice (some ⟨w.heap.size, 0, none⟩) 3 3] := by
          have h := Blk.new (w3.drew.alloc (.cells #[.int .u64 0, .int .u64 8, .int .u64 12, .slice (some ⟨w.heap.size, 0, none⟩) 3 3] 31)) 31 #[.int .u64 0, .int .u64 8, .int .u64 7, .slice (some ⟨w.heap.size, 0, none⟩) 3 3]
          rw [World.size_alloc] at h
          exact h
        have HR6 := Lib.hid (hS.below (((Below.refl w3.drew.heap.size w3.drew).alloc (Nat.le_refl _) (.cells #[.int .u64 0, .int .u64 8, .int .u64 12, .slice (some ⟨w.heap.size, 0, none⟩) 3 3] 31)).alloc (by simp) (.cells #[.int .u64 0, .int .u64 8, .int .u64 7, .slice (some ⟨w.heap.size, 0, none⟩) 3 3] 31)))
        have KL := Lib.hid k2
        have KH := Lib.hid k1
        obtain ⟨m0, m1, m2, m3, -, -, -, -, hz⟩ := HR3.out.k1.c4
        clear k1 k2 hS hT HR3
        go_wp2_with fail
        refine (pack_Op (n := 3) (by decide)).mono ?_
        rintro x w4 ⟨rfl, hX⟩
        have HR7 := Lib.hid (HR6.out.below hX)
        have KL7 := Lib.hid (Blk.below KL.out hX)
        have KH7 := Lib.hid (Blk.below KH.out hX)
        clear HR6 KL KH m0 m1 m2 m3 hz hX
        obtain ⟨m0, m1, m2, m3, -, -, -, -, hz⟩ := HR7.out.k1.c4
        have ho : IntKind.u64.wrap ((8 : Int) + ((3 : Nat) : Int)) = 11 := by decide
        rw [ho]
        clear ho
        go_wp2_with fail
        refine (pack_May (es := es3) HR7.out.e (by decide) (by decide)).mono ?_
        rintro x w5 ⟨rfl, hX⟩
        have HR8 := Lib.hid (HR7.out.below hX)
        have KL8 := Lib.hid (Blk.below KL7.out hX)
        have KH8 := Lib.hid (Blk.below KH7.out hX)
        clear HR7 KL7 KH7 m0 m1 m2 m3 hz hX
        obtain ⟨m0, m1, m2, m3, -, -, -, -, hz⟩ := KL8.out.c4
        rw [show mayB 0 8 8 es3 = true from by decide]
        go_wp2_with fail
        refine (pack_May (es := es3) HR8.out.e (by decide) (by decide)).mono ?_
        rintro x w6 ⟨rfl, hX⟩
        have HR9 := Lib.hid (HR8.out.below hX)
        have KH9 := Lib.hid (Blk.below KH8.out hX)
        clear HR8 KL8 KH8 m0 m1 m2 m3 hz hX
        obtain ⟨m0, m1, m2, m3, -, -, -, -, hz⟩ := KH9.out.c4
        rw [show mayB 0 8 7 es3 = false from by decide]
        go_wp2_with fail
        refine (pack_May (es := es3) HR9.out.e (by decide) (by decide)).mono ?_
        rintro x w7 ⟨rfl, hX⟩
        have HR10 := Lib.hid (HR9.out.below hX)
        clear HR9 KH9 m0 m1 m2 m3 hz hX
        rw [show mayB 0 8 12 es3 = false from by decide]
        go_wp2_with fail
        go_ret
        exact ⟨rfl, HR10.out.b⟩

end Go.Proofs.Yteijpcedggkdpaa
