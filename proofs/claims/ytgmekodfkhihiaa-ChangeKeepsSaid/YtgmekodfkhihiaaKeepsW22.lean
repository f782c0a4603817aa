/-
  ChangeKeeps: the walk. Condition: the numbers are bytes. (Printed by wip/gen_keeps22.py.)
-/
import Derived.Test.YtgmekodfkhihiaaKeepsS22
namespace Go.Proofs.Ytgmekodfkhihiaa
open Go.RowKit Go.Maps
set_option linter.unusedSimpArgs false
set_option linter.unusedVariables false

/-- The numbers. -/
structure KN (q has who : Int) (ls ms : List Int) (N : Nat) : Prop where
  q0 : 0 ≤ q
  q1 : q < 256
  ls : B7 ls
  ms : B7 ms
  h0 : 0 ≤ has
  h1 : has < 256
  w0 : 0 ≤ who
  w1 : who < 256
  n : 1 + 2 * (q % 4) = (N : Int)
theorem KN.ok {q has who : Int} {ls ms : List Int} {N : Nat} (h : KN q has who ls ms N) : NumOk N 0 := by
  have := h.n
  exact ⟨by omega, by omega, by omega⟩
theorem KN.n7 {q has who : Int} {ls ms : List Int} {N : Nat} (h : KN q has who ls ms N) : 1 ≤ N ∧ N ≤ 7 := by
  have := h.n
  omega
def lvF (ls : List Int) (i : Nat) : Int := ls.getD i 0 % 4
def mvF (ms : List Int) (i : Nat) : Nat := (ms.getD i 0 % 3).toNat
theorem lvF_le (ls : List Int) (i : Nat) : lvF ls i ≤ 3 := by unfold lvF; omega
theorem mvF_le (ms : List Int) (i : Nat) : mvF ms i ≤ 2 := by unfold mvF; omega
def offF (a : Int) (i : Nat) : Bool := bits .and .u8 (a / 2 ^ i) 1 == 0
def onF (a : Int) (i : Nat) : Bool := !offF a i
def bitF (a : Int) (i : Nat) : Bool := bits .and .u8 (a / 2 ^ i) 1 == 1

set_option pp.deepTerms true in
set_option pp.maxSteps 1000000 in
set_option maxHeartbeats 12800000 in
set_option maxRecDepth 100000 in
theorem keeps_walk {w : World} {q : Int} {ls ms : List Int} {has who : Int} {tu : Bool} {N : Nat} (hk : KN q has who ls ms N) :
    Calls Try.prog 3 #[.int .u8 q, .agg (u8s ls), .agg (u8s ms), .int .u8 has, .int .u8 who, .bool tu] w fun x w' => x = .returned (.bool true) ∧ Below w.heap.size w w' := by
  obtain ⟨i0, hi, hz0, hz1, hz2⟩ := info_parts infoE
  have HK := Lib.hid hk
  have hn := hk.n
  have hq0 := hk.q0
  have hq1 := hk.q1
  have hn7 : N ≤ 7 := hk.n7.2
  have hn1 : 1 ≤ N := hk.n7.1
  clear hk
  have hb1 := (Below.refl w.heap.size w).alloc (Nat.le_refl _) (.cells (u8s ls) 22)
  have hb2 := hb1.alloc hb1.size (.cells (u8s ms) 22)
  have hk2 := Blk.new (w.alloc (.cells (u8s ls) 22)) 22 (u8s ms)
  have hk1 := (Blk.new w 22 (u8s ls)).alloc (.cells (u8s ms) 22)
  have HB := Lib.hid hb2
  have K1 := Lib.hid hk1
  have K2 := Lib.hid (show Blk _ (w.heap.size + 1) _ _ from by simpa using hk2)
  clear hb1 hb2 hk1 hk2
  go_enter Try.func3, Try.ntmps3
  go_wp2_with fail
  clear hn hq0 hq1
  generalize (w.alloc (.cells (u8s ls) 22)).alloc (.cells (u8s ms) 22) = W1 at *
  refine (ch_New HK.out.ok).mono ?_
  rintro x W2 ⟨ca, va, ga, rfl, hC, h1, h2, h3, hb⟩
  have HC2 := Lib.hid hC
  have HB2 := Lib.hid (HB.out.trans (hb.mono HB.out.size))
  have K1' := Lib.hid (K1.out.below hb)
  have K2' := Lib.hid (K2.out.below hb)
  have HG := Lib.hid (And.intro (And.intro h1 h2) (And.intro h3 K2.out.lt))
  clear hC h1 h2 h3 hb K1 K2 HB
  go_wp2_with fail
  refine (ch_Start (vn := 9) HC2.out (by decide) (by decide) (by decide)).mono ?_
  rintro x W3 ⟨rfl, hC, hE⟩
  rw [newT_no] at hC
  have HC3 := Lib.hid hC
  have hgg := HG.out
  have HB3 := Lib.hid (Ext.from HB2.out hE (fun j hj => by omega))
  have K1 := Lib.hid (K1'.out.ext hE (by omega))
  have K2 := Lib.hid (K2'.out.ext hE (by omega))
  have HG3 := Lib.hid (show (w.heap.size + 2 ≤ ca ∧ w.heap.size + 2 ≤ ga) ∧ w.heap.size + 2 ≤ W3.heap.size from by have := hE.size; have := HC2.out.lt; omega)
  clear hC hE hgg K1' K2' HB2 HC2 HG
  go_upto_region 6 with fail
  have hM := Blk.new W3 32 #[.int .u64 0, .int .u32 7, .int .u64 77, .slice none 0 0]
  have hbm := (Below.refl W3.heap.size W3).alloc (Nat.le_refl _) (.cells #[.int .u64 0, .int .u32 7, .int .u64 77, .slice none 0 0] 32)
  have hP := Blk.new (W3.alloc (.cells #[.int .u64 0, .int .u32 7, .int .u64 77, .slice none 0 0] 32)) 36 zpcs.toArray
  have hbp := hbm.alloc hbm.size (.cells zpcs.toArray 36)
  have HO := Lib.hid (show KS w _ ls ms N W3.heap.size (W3.heap.size + 1) ca va ga (W3.heap.size + 2) (W3.heap.size + 2) (List.replicate 7 noPk) from by
    have hlt := HC3.out.lt
    have hg := HG3.out
    refine ⟨HB3.out.trans (hbp.mono HB3.out.size), K1.out.below hbp, K2.out.below hbp, hM.alloc (.cells zpcs.toArray 36), ⟨zpcs, by simpa using hP, zpks _ _⟩, HC3.out.below hbp, ?_, ?_, ?_, rfl⟩
    · simp; omega
    · omega
    · omega)
  clear hM hbm hP hbp HC3 HB3 K1 K2 HG3
  go_wp2_with fail
  generalize hgm : W3.heap.size = mk at *
  clear hgm
  generalize hgp : mk + 1 = pk at *
  generalize hgb : mk + 2 = B at *
  clear hgp hgb
  go_loopw [18, 19, 20, 21] (fun ct le gr iv wr => ∃ i : Nat, i ≤ N ∧ iv = .int .i64 i ∧ ct = .int .i64 (cntI (bitF has) i) ∧ le = .int .u64 (leastI (bitF has) (lvF ls) i) ∧ gr = .int .u64 (greatI (bitF has) (lvF ls) i) ∧ Hid (∃ C, KS w wr ls ms N mk pk ca va ga B C (packsTo (bitF has) (lvF ls) (mvF ms) i))) (fun _ _ _ iv _ => N - (intOf iv).toNat)
  case atStart => exact ⟨0, Nat.zero_le _, rfl, rfl, rfl, rfl, Lib.hid ⟨_, by rw [packsTo_0]; exact HO.out⟩⟩
  case round =>
    obtain ⟨i, hiN, rfl, rfl, rfl, rfl, HR⟩ := hrel
    clear HO
    obtain ⟨C, hR⟩ := HR.out
    have HR := Lib.hid hR
    clear hR
    by_cases hlt : i < N
    · have hi7 : (i : Int) < 7 := by omega
      obtain ⟨ct, hct⟩ : ∃ x, cntI (bitF has) i = x := ⟨_, rfl⟩
      obtain ⟨le, hle⟩ : ∃ x, leastI (bitF has) (lvF ls) i = x := ⟨_, rfl⟩
      obtain ⟨gr, hgr⟩ : ∃ x, greatI (bitF has) (lvF ls) i = x := ⟨_, rfl⟩
      obtain ⟨l, hl⟩ : ∃ x, lvF ls i = x := ⟨_, rfl⟩
      obtain ⟨m, hm⟩ : ∃ x, mvF ms i = x := ⟨_, rfl⟩
      obtain ⟨a, ha⟩ : ∃ x, ls.getD i 0 = x := ⟨_, rfl⟩
      obtain ⟨b, hb⟩ : ∃ x, ms.getD i 0 = x := ⟨_, rfl⟩
      have hab := HK.out.ls.at (i := i) (by omega)
      have hbb := HK.out.ms.at (i := i) (by omega)
      rw [ha] at hab
      rw [hb] at hbb
      obtain ⟨ha0, ha1⟩ := hab
      obtain ⟨hb0, hb1⟩ := hbb
      have hal : a % 4 = l := by rw [← hl, ← ha]; rfl
      have hbm : b % 3 = (m : Int) := by rw [← hm, ← hb]; unfold mvF; rw [hb]; omega
      have hat : a.tmod 4 = l := by rw [Int.tmod_eq_emod_of_nonneg ha0]; exact hal
      have hbt : b.tmod 3 = (m : Int) := by rw [Int.tmod_eq_emod_of_nonneg hb0]; exact hbm
      have hl3 : 0 ≤ l ∧ l ≤ 3 := by omega
      have hm2 : m ≤ 2 := by omega
      obtain ⟨hl0, hl3⟩ := hl3
      have c0 := u8s_at HR.out.kl HK.out.ls (i := i) (by omega)
      have c1 := u8s_at HR.out.km HK.out.ms (i := i) (by omega)
      rw [ha] at c0
      rw [hb] at c1
      have hct0 : 0 ≤ ct ∧ ct ≤ i := by rw [← hct]; exact cntI_le i
      obtain ⟨hct0, hct1⟩ := hct0
      have Hct := Lib.hid hct
      have Hle := Lib.hid hle
      have Hgr := Lib.hid hgr
      have Hl := Lib.hid hl
      have Hm := Lib.hid hm
      have Hb := Lib.hid hb
      rw [hct, hle, hgr]
      clear hct hle hgr hl hm ha hb
      go_upto_region 11 with fail
      go_cut [22] (fun pv wx => ∃ (pb g : Nat), pv = .pointer (some ⟨pb, 0, none⟩) ∧ Hid (PS w wx ls ms N mk pk ca va ga B C (packsTo (bitF has) (lvF ls) (mvF ms) i) pb l (List.replicate m zent) m (some ⟨g, 0, none⟩) m))
      case first =>
        have hmk := fun W => make_ents hm2 W
        have hS : Holds [(w.heap.size, i, .int .u8 a), (w.heap.size + 1, i, .int .u8 b)] wr.drew := ⟨c0, c1, trivial⟩
        clear c0 c1
        refine begin_D (T := Hold0) [] (by kernel_rfl) hS (fun _ => trivial) ?_
        refine take_S (v := ?v0a) 0 rfl (by kernel_rfl) (by kernel_rfl) (by kernel_rfl) (by kernel_rfl) (fun _ _ _ h => h) hS (fun _ => trivial) rfl (fun w' hq => ?h0a) ?_
        case h0a => go_simp; try with_reducible rfl
        try simp only [Act.put, List.setIfInBounds_toArray, List.set_cons_zero, List.set_cons_succ, List.getElem_toArray, List.getElem_cons_succ, List.getElem_cons_zero]
        refine take_S (v := ?v1a) 1 rfl (by kernel_rfl) (by kernel_rfl) (by kernel_rfl) (by kernel_rfl) (fun _ _ _ h => h) hS (fun _ => trivial) rfl (fun w' hq => ?h1a) ?_
        case h1a => go_simp; try with_reducible rfl
        try simp only [Act.put, List.setIfInBounds_toArray, List.set_cons_zero, List.set_cons_succ, List.getElem_toArray, List.getElem_cons_succ, List.getElem_cons_zero]
        refine take_S (v := ?v2a) 2 rfl (by kernel_rfl) (by kernel_rfl) (by kernel_rfl) (by kernel_rfl) (fun _ _ _ h => h) hS (fun _ => trivial) rfl (fun w' hq => ?h2a) ?_
        case h2a => obtain ⟨q0, q1, -⟩ := hq; change _ = some _ at q0; change _ = some _ at q1; go_simp; try with_reducible rfl
        try simp only [Act.put, List.setIfInBounds_toArray, List.set_cons_zero, List.set_cons_succ, List.getElem_toArray, List.getElem_cons_succ, List.getElem_cons_zero]
        refine take_S (v := (.int .u8 l)) 3 rfl (by kernel_rfl) (by kernel_rfl) (by kernel_rfl) (by kernel_rfl) (fun _ _ _ h => h) hS (fun _ => trivial) rfl (fun w' hq => ?h3a) ?_
        case h3a => go_simp; try exact hat
        try simp only [Act.put, List.setIfInBounds_toArray, List.set_cons_zero, List.set_cons_succ, List.getElem_toArray, List.getElem_cons_succ, List.getElem_cons_zero]
        refine take_S (v := (.int .u64 l)) 4 rfl (by kernel_rfl) (by kernel_rfl) (by kernel_rfl) (by kernel_rfl) (fun _ _ _ h => h) hS (fun _ => trivial) rfl (fun w' hq => ?h4a) ?_
        case h4a => go_simp; exact IntWalk.u64_in _ (by omega)
        try simp only [Act.put, List.setIfInBounds_toArray, List.set_cons_zero, List.set_cons_succ, List.getElem_toArray, List.getElem_cons_succ, List.getElem_cons_zero]
        refine take_S (v := ?v5a) 5 rfl (by kernel_rfl) (by kernel_rfl) (by kernel_rfl) (by kernel_rfl) (fun _ _ _ h => h) hS (fun _ => trivial) rfl (fun w' hq => ?h5a) ?_
        case h5a => go_simp; try with_reducible rfl
        try simp only [Act.put, List.setIfInBounds_toArray, List.set_cons_zero, List.set_cons_succ, List.getElem_toArray, List.getElem_cons_succ, List.getElem_cons_zero]
        refine take_S (v := ?v6a) 6 rfl (by kernel_rfl) (by kernel_rfl) (by kernel_rfl) (by kernel_rfl) (fun _ _ _ h => h) hS (fun _ => trivial) rfl (fun w' hq => ?h6a) ?_
        case h6a => go_simp; try with_reducible rfl
        try simp only [Act.put, List.setIfInBounds_toArray, List.set_cons_zero, List.set_cons_succ, List.getElem_toArray, List.getElem_cons_succ, List.getElem_cons_zero]
        refine take_S (v := ?v7a) 7 rfl (by kernel_rfl) (by kernel_rfl) (by kernel_rfl) (by kernel_rfl) (fun _ _ _ h => h) hS (fun _ => trivial) rfl (fun w' hq => ?h7a) ?_
        case h7a => obtain ⟨q0, q1, -⟩ := hq; change _ = some _ at q0; change _ = some _ at q1; go_simp; try with_reducible rfl
        try simp only [Act.put, List.setIfInBounds_toArray, List.set_cons_zero, List.set_cons_succ, List.getElem_toArray, List.getElem_cons_succ, List.getElem_cons_zero]
        refine take_S (v := (.int .u8 (m : Int))) 8 rfl (by kernel_rfl) (by kernel_rfl) (by kernel_rfl) (by kernel_rfl) (fun _ _ _ h => h) hS (fun _ => trivial) rfl (fun w' hq => ?h8a) ?_
        case h8a => go_simp; try exact hbt
        try simp only [Act.put, List.setIfInBounds_toArray, List.set_cons_zero, List.set_cons_succ, List.getElem_toArray, List.getElem_cons_succ, List.getElem_cons_zero]
        refine take_S (v := (.int .i64 (m : Int))) 9 rfl (by kernel_rfl) (by kernel_rfl) (by kernel_rfl) (by kernel_rfl) (fun _ _ _ h => h) hS (fun _ => trivial) rfl (fun w' hq => ?h9a) ?_
        case h9a => go_simp; exact IntWalk.i64_in _ (by omega)
        try simp only [Act.put, List.setIfInBounds_toArray, List.set_cons_zero, List.set_cons_succ, List.getElem_toArray, List.getElem_cons_succ, List.getElem_cons_zero]
        clear hal hbm hat hbt ha0 ha1 hb0 hb1
        have HS := Lib.hid hS
        have HO := Lib.hid (HR.out.below (Below.refl _ wr).drew)
        generalize wr.drew = V0 at *
        refine two_D 10 12 rfl rfl (by kernel_rfl) (fun KQ hK => ?_) (fun KQ hK => ?_)
        · go_simp
          have hb8 := (Below.refl V0.heap.size V0).alloc (Nat.le_refl _) (.cells (madeCells z4.toArray (m * 4)) 32)
          have hz8 : (V0.alloc (.cells (madeCells z4.toArray (m * 4)) 32)).heap.size = V0.heap.size + 1 := World.size_alloc _ _
          have hb9 := hb8.alloc hb8.size (.cells #[.int .u64 0, .int .u64 0, .int .u64 0, .slice none 0 0] 35)
          have hS8 : Holds [(w.heap.size, i, .int .u8 a), (w.heap.size + 1, i, .int .u8 b)] (V0.alloc (.cells (madeCells z4.toArray (m * 4)) 32)) := Holds.below HS.out hb8
          have hS9 : Holds [(w.heap.size, i, .int .u8 a), (w.heap.size + 1, i, .int .u8 b)] ((V0.alloc (.cells (madeCells z4.toArray (m * 4)) 32)).alloc (.cells #[.int .u64 0, .int .u64 0, .int .u64 0, .slice none 0 0] 35)) := Holds.below HS.out hb9
          refine hK.out _ _ hS8 (fun _ => trivial) ?_
          clear hK
          refine take_S (v := ?v11o10) 11 rfl (by kernel_rfl) (by kernel_rfl) (by kernel_rfl) (by kernel_rfl) (fun _ _ _ h => h) hS8 (fun _ => trivial) rfl (fun w' hq => ?h11o10) ?_
          case h11o10 => go_simp; try with_reducible rfl
          try simp only [Act.put, List.setIfInBounds_toArray, List.set_cons_zero, List.set_cons_succ, List.getElem_toArray, List.getElem_cons_succ, List.getElem_cons_zero]
          refine one_D 12 rfl (by kernel_rfl) (fun KQ hK => ?_)
          go_simp
          refine hK.out _ _ hS9 (fun _ => trivial) ?_
          clear hK
          refine one_D 13 rfl (by kernel_rfl) (fun KQ hK => ?_)
          go_simp
          have hb8 := (Below.refl V0.heap.size V0).alloc (Nat.le_refl _) (.cells (madeCells z4.toArray (m * 4)) 32)
          have hz8 : (V0.alloc (.cells (madeCells z4.toArray (m * 4)) 32)).heap.size = V0.heap.size + 1 := World.size_alloc _ _
          have hb9 := hb8.alloc hb8.size (.cells #[.int .u64 l, .int .u64 8, .int .u64 8, .slice (some ⟨V0.heap.size, 0, none⟩) m m] 35)
          have hS10 : Holds [(w.heap.size, i, .int .u8 a), (w.heap.size + 1, i, .int .u8 b)] ((V0.alloc (.cells (madeCells z4.toArray (m * 4)) 32)).alloc (.cells #[.int .u64 l, .int .u64 8, .int .u64 8, .slice (some ⟨V0.heap.size, 0, none⟩) m m] 35)) := Holds.below HS.out hb9
          have HF := Lib.hid (show PS w ((V0.alloc (.cells (madeCells z4.toArray (m * 4)) 32)).alloc (.cells #[.int .u64 l, .int .u64 8, .int .u64 8, .slice (some ⟨V0.heap.size, 0, none⟩) m m] 35)) ls ms N mk pk ca va ga B C (packsTo (bitF has) (lvF ls) (mvF ms) i) (V0.heap.size + 1) l (List.replicate m zent) m (some ⟨V0.heap.size, 0, none⟩) m from
            ⟨HO.out.below hb9, by have h := Blk.new (V0.alloc (.cells (madeCells z4.toArray (m * 4)) 32)) 35 #[.int .u64 l, .int .u64 8, .int .u64 8, .slice (some ⟨V0.heap.size, 0, none⟩) m m]; rw [hz8] at h; exact h, (made_own (by have := HO.out.lt; omega) hm2 rfl).below ((Below.refl _ _).alloc (Nat.le_refl _) _), by have := HO.out.lt; omega, List.length_replicate⟩)
          refine hK.out _ _ hS10 (fun _ => trivial) ?_
          clear hK hS8 hS9 hS10 hb8 hb9 hz8
          refine done_D (by kernel_rfl) ?_ _
          go_wp2_with fail
          go_meet
          case rel => exact ⟨(V0.heap.size + 1), V0.heap.size, rfl, HF⟩
        · go_simp
          have hb8 := (Below.refl V0.heap.size V0).alloc (Nat.le_refl _) (.cells #[.int .u64 0, .int .u64 0, .int .u64 0, .slice none 0 0] 35)
          have hz8 : (V0.alloc (.cells #[.int .u64 0, .int .u64 0, .int .u64 0, .slice none 0 0] 35)).heap.size = V0.heap.size + 1 := World.size_alloc _ _
          have hb9 := hb8.alloc hb8.size (.cells (madeCells z4.toArray (m * 4)) 32)
          have hS8 : Holds [(w.heap.size, i, .int .u8 a), (w.heap.size + 1, i, .int .u8 b)] (V0.alloc (.cells #[.int .u64 0, .int .u64 0, .int .u64 0, .slice none 0 0] 35)) := Holds.below HS.out hb8
          have hS9 : Holds [(w.heap.size, i, .int .u8 a), (w.heap.size + 1, i, .int .u8 b)] ((V0.alloc (.cells #[.int .u64 0, .int .u64 0, .int .u64 0, .slice none 0 0] 35)).alloc (.cells (madeCells z4.toArray (m * 4)) 32)) := Holds.below HS.out hb9
          refine hK.out _ _ hS8 (fun _ => trivial) ?_
          clear hK
          refine one_D 10 rfl (by kernel_rfl) (fun KQ hK => ?_)
          go_simp
          refine hK.out _ _ hS9 (fun _ => trivial) ?_
          clear hK
          refine take_S (v := ?v11o12) 11 rfl (by kernel_rfl) (by kernel_rfl) (by kernel_rfl) (by kernel_rfl) (fun _ _ _ h => h) hS9 (fun _ => trivial) rfl (fun w' hq => ?h11o12) ?_
          case h11o12 => go_simp; try with_reducible rfl
          try simp only [Act.put, List.setIfInBounds_toArray, List.set_cons_zero, List.set_cons_succ, List.getElem_toArray, List.getElem_cons_succ, List.getElem_cons_zero]
          refine one_D 13 rfl (by kernel_rfl) (fun KQ hK => ?_)
          go_simp
          have hb8 := (Below.refl V0.heap.size V0).alloc (Nat.le_refl _) (.cells #[.int .u64 l, .int .u64 8, .int .u64 8, .slice (some ⟨(V0.heap.size + 1), 0, none⟩) m m] 35)
          have hz8 : (V0.alloc (.cells #[.int .u64 l, .int .u64 8, .int .u64 8, .slice (some ⟨(V0.heap.size + 1), 0, none⟩) m m] 35)).heap.size = V0.heap.size + 1 := World.size_alloc _ _
          have hb9 := hb8.alloc hb8.size (.cells (madeCells z4.toArray (m * 4)) 32)
          have hS10 : Holds [(w.heap.size, i, .int .u8 a), (w.heap.size + 1, i, .int .u8 b)] ((V0.alloc (.cells #[.int .u64 l, .int .u64 8, .int .u64 8, .slice (some ⟨(V0.heap.size + 1), 0, none⟩) m m] 35)).alloc (.cells (madeCells z4.toArray (m * 4)) 32)) := Holds.below HS.out hb9
          have HF := Lib.hid (show PS w ((V0.alloc (.cells #[.int .u64 l, .int .u64 8, .int .u64 8, .slice (some ⟨(V0.heap.size + 1), 0, none⟩) m m] 35)).alloc (.cells (madeCells z4.toArray (m * 4)) 32)) ls ms N mk pk ca va ga B C (packsTo (bitF has) (lvF ls) (mvF ms) i) V0.heap.size l (List.replicate m zent) m (some ⟨(V0.heap.size + 1), 0, none⟩) m from
            ⟨HO.out.below hb9, (Blk.new V0 _ _).alloc (.cells (madeCells z4.toArray (m * 4)) 32), by have h := made_own (w := V0.alloc (.cells #[.int .u64 l, .int .u64 8, .int .u64 8, .slice (some ⟨(V0.heap.size + 1), 0, none⟩) m m] 35)) (base := C) (by rw [hz8]; have := HO.out.lt; omega) hm2 rfl; rw [hz8] at h; exact h, by have := HO.out.lt; omega, List.length_replicate⟩)
          refine hK.out _ _ hS10 (fun _ => trivial) ?_
          clear hK hS8 hS9 hS10 hb8 hb9 hz8
          refine done_D (by kernel_rfl) ?_ _
          go_wp2_with fail
          go_meet
          case rel => exact ⟨V0.heap.size, (V0.heap.size + 1), rfl, HF⟩
      case rest =>
        obtain ⟨pb, g, rfl, HF⟩ := hcut
        clear HR c0 c1 hal hbm hat ha0 ha1
        obtain ⟨bv, hbv⟩ : ∃ x, (bits BinOp.and IntKind.u8 (has / 2 ^ i) 1 == 1) = x := ⟨_, rfl⟩
        have Hbv := Lib.hid (show bitF has i = bv from hbv)
        go_upto_if 70 with fail
        clear hbv
        go_cut [18, 19, 20] (fun ctv lev grv wy => ctv = .int .i64 (upI bv ct) ∧ lev = .int .u64 (leI bv le l) ∧ grv = .int .u64 (geI bv gr l) ∧ Hid (∃ p c nn, PS w wy ls ms N mk pk ca va ga B C (packsTo (bitF has) (lvF ls) (mvF ms) i) pb l (esOf m bv) nn p c))
        case first =>
          cases bv with
          | true =>
            go_upto_region 13 with fail
            go_cut [22] (fun pv wz => pv = .pointer (some ⟨pb, 0, none⟩) ∧ Hid (∃ p c, PS w wz ls ms N mk pk ca va ga B C (packsTo (bitF has) (lvF ls) (mvF ms) i) pb l [zent, zent, markE] 3 p c))
            case first =>
              have hmk := make_two
              obtain ⟨m0, m1, m2, m3, -⟩ := HF.out.s.mr.c4
              have hS : Holds [(mk, 0, .int .u64 0), (mk, 1, .int .u32 7), (mk, 2, .int .u64 77), (mk, 3, .slice none 0 0)] wc.drew := ⟨m0, m1, m2, m3, trivial⟩
              clear m0 m1 m2 m3
              refine begin_D (T := Hold0) [] (by kernel_rfl) hS (fun _ => trivial) ?_
              refine take_S (v := ?v1b) 1 rfl (by kernel_rfl) (by kernel_rfl) (by kernel_rfl) (by kernel_rfl) (fun _ _ _ h => h) hS (fun _ => trivial) rfl (fun w' hq => ?h1b) ?_
              case h1b => obtain ⟨q0, q1, q2, q3, -⟩ := hq; change _ = some _ at q0; change _ = some _ at q1; change _ = some _ at q2; change _ = some _ at q3; go_simp; try with_reducible rfl
              try simp only [Act.put, List.setIfInBounds_toArray, List.set_cons_zero, List.set_cons_succ, List.getElem_toArray, List.getElem_cons_succ, List.getElem_cons_zero]
              have HS := Lib.hid hS
              have HG := Lib.hid (show PS w wc.drew ls ms N mk pk ca va ga B C (packsTo (bitF has) (lvF ls) (mvF ms) i) pb l (List.replicate m zent) m (some ⟨g, 0, none⟩) m from
                ⟨HF.out.s.below (Below.refl _ wc).drew, HF.out.k.drew, HF.out.e, HF.out.b, HF.out.len⟩)
              clear HF
              generalize wc.drew = V0 at *
              refine two_D 0 2 rfl rfl (by kernel_rfl) (fun KQ hK => ?_) (fun KQ hK => ?_)
              · go_simp
                have hb8 := (Below.refl V0.heap.size V0).alloc (Nat.le_refl _) (.cells made2 32)
                have hz8 : (V0.alloc (.cells made2 32)).heap.size = V0.heap.size + 1 := World.size_alloc _ _
                have hb9 := hb8.alloc hb8.size (.cells #[.int .u64 0, .int .u32 7, .int .u64 77, .slice none 0 0] 32)
                have hS8 : Holds [(mk, 0, .int .u64 0), (mk, 1, .int .u32 7), (mk, 2, .int .u64 77), (mk, 3, .slice none 0 0)] (V0.alloc (.cells made2 32)) := Holds.below HS.out hb8
                have hS9 : Holds [(mk, 0, .int .u64 0), (mk, 1, .int .u32 7), (mk, 2, .int .u64 77), (mk, 3, .slice none 0 0)] ((V0.alloc (.cells made2 32)).alloc (.cells #[.int .u64 0, .int .u32 7, .int .u64 77, .slice none 0 0] 32)) := Holds.below HS.out hb9
                have HE := Lib.hid (show EntsOwn ((V0.alloc (.cells made2 32)).alloc (.cells #[.int .u64 0, .int .u32 7, .int .u64 77, .slice none 0 0] 32)) C (.slice (some ⟨V0.heap.size, 0, none⟩) 2 2) [zent, zent] from (made_own (base := C) (by have := HG.out.s.lt; omega) (by decide) rfl).below ((Below.refl _ _).alloc (Nat.le_refl _) _))
                have HU := Lib.hid (show Blk ((V0.alloc (.cells made2 32)).alloc (.cells #[.int .u64 0, .int .u32 7, .int .u64 77, .slice none 0 0] 32)) (V0.heap.size + 1) 32 #[.int .u64 0, .int .u32 7, .int .u64 77, .slice none 0 0] from by have h := Blk.new (V0.alloc (.cells made2 32)) 32 #[.int .u64 0, .int .u32 7, .int .u64 77, .slice none 0 0]; rw [hz8] at h; exact h)
                have HG9 := Lib.hid (show PS w ((V0.alloc (.cells made2 32)).alloc (.cells #[.int .u64 0, .int .u32 7, .int .u64 77, .slice none 0 0] 32)) ls ms N mk pk ca va ga B C (packsTo (bitF has) (lvF ls) (mvF ms) i) pb l (List.replicate m zent) m (some ⟨g, 0, none⟩) m from
                  ⟨HG.out.s.below hb9, HG.out.k.below hb9, HG.out.e.below hb9, HG.out.b, HG.out.len⟩)
                refine hK.out _ _ hS8 (fun _ => trivial) ?_
                clear hK
                refine one_D 2 rfl (by kernel_rfl) (fun KQ hK => ?_)
                go_simp
                have hz9 : (V0.alloc (.cells made2 32)).heap.size + 1 = ((V0.alloc (.cells made2 32)).alloc (.cells #[.int .u64 0, .int .u32 7, .int .u64 77, .slice none 0 0] 32)).heap.size := (World.size_alloc _ _).symm
                have Hz9 := Lib.hid (show V0.heap.size + 2 = ((V0.alloc (.cells made2 32)).alloc (.cells #[.int .u64 0, .int .u32 7, .int .u64 77, .slice none 0 0] 32)).heap.size by rw [← hz9, hz8])
                refine hK.out _ _ hS9 (fun _ => trivial) ?_
                clear hK hb8 hz8 hb9 hS8 hz9 HG HS
                generalize (V0.alloc (.cells made2 32)).alloc (.cells #[.int .u64 0, .int .u32 7, .int .u64 77, .slice none 0 0] 32) = V1 at *
                refine one_D 3 rfl (by kernel_rfl) (fun KQ hK => ?_)
                refine Eq.mpr (if_pos (by rfl)) ?_
                obtain ⟨cs, hown, hEl⟩ := HE.out
                have Hown := Lib.hid hown
                have HEl := Lib.hid hEl
                clear hown hEl HE
                refine wp_append_own _ (.tmp 71) (.tmp 73) 33 rfl C 32 i0 _ 4 48 Try.underlying33 hi hz0 hz1 hz2 rfl (by decide) (.slice (some ⟨V0.heap.size, 0, none⟩) 2 2) 2 cs rfl Hown.out ⟨(V0.heap.size + 1), 0, none⟩ 1 1 [.int .u64 0, .int .u32 7, .int .u64 77, .slice none 0 0] rfl rfl ?a1 ?a2 (by decide) (by decide) (by have := HG9.out.s.lt; omega) ?_
                case a1 => exact news_of_block HU.out
                case a2 => intro u hu; simp at hu; rcases hu with rfl | rfl | rfl | rfl <;> rfl
                intro v5 w5 hown5 hgrow5 _
                obtain ⟨p5, c5, rfl⟩ := own_slice hown5
                have hEE : EntsOwn w5 C (.slice p5 3 c5) [zent, zent, markE] := EntsOwn.snoc (es := [zent, zent]) (e := markE) Hown.out HEl.out (s := .slice none 0 0) (World.ownsRow_nil _ _ _ _) hgrow5 hown5
                obtain ⟨hk5, hs5⟩ := HG9.out.kept Hown.out hgrow5
                obtain ⟨m0, m1, m2, m3, -⟩ := hs5.mr.c4
                have hS5 : Holds [(mk, 0, .int .u64 0), (mk, 1, .int .u32 7), (mk, 2, .int .u64 77), (mk, 3, .slice none 0 0)] w5 := ⟨m0, m1, m2, m3, trivial⟩
                have HP6 := Lib.hid (HG9.out.put Hown.out hgrow5 hEE rfl)
                obtain ⟨b0, b1, b2, b3, f0, f1, f2, f3, hzb⟩ := hk5.c4
                refine hK.out _ _ hS5 (fun _ => trivial) ?_
                clear hK hS9 hown5 hgrow5 hEE hk5 hs5 m0 m1 m2 m3 HG9 HU Hown HEl
                refine take_S (v := ?v4c0) 4 rfl (by kernel_rfl) (by kernel_rfl) (by kernel_rfl) (by kernel_rfl) (fun _ _ _ h => h) hS5 (fun _ => trivial) rfl (fun w' hq => ?h4c0) ?_
                case h4c0 => go_simp; try with_reducible rfl
                try simp only [Act.put, List.setIfInBounds_toArray, List.set_cons_zero, List.set_cons_succ, List.getElem_toArray, List.getElem_cons_succ, List.getElem_cons_zero]
                refine one_D 5 rfl (by kernel_rfl) (fun KQ hK => ?_)
                go_simp
                obtain ⟨m0, m1, m2, m3, -⟩ := HP6.out.s.mr.c4
                have hS6 : Holds [(mk, 0, .int .u64 0), (mk, 1, .int .u32 7), (mk, 2, .int .u64 77), (mk, 3, .slice none 0 0)] _ := ⟨m0, m1, m2, m3, trivial⟩
                refine hK.out _ _ hS6 (fun _ => trivial) ?_
                clear hK hS5 b0 b1 b2 b3 f0 f1 f2 f3 hzb m0 m1 m2 m3
                refine done_D (by kernel_rfl) ?_ _
                clear hS6
                go_wp2_with fail
                go_meet
                case rel => exact ⟨rfl, Lib.hid ⟨p5, c5, HP6.out⟩⟩
              · go_simp
                have hb8 := (Below.refl V0.heap.size V0).alloc (Nat.le_refl _) (.cells #[.int .u64 0, .int .u32 7, .int .u64 77, .slice none 0 0] 32)
                have hz8 : (V0.alloc (.cells #[.int .u64 0, .int .u32 7, .int .u64 77, .slice none 0 0] 32)).heap.size = V0.heap.size + 1 := World.size_alloc _ _
                have hb9 := hb8.alloc hb8.size (.cells made2 32)
                have hS8 : Holds [(mk, 0, .int .u64 0), (mk, 1, .int .u32 7), (mk, 2, .int .u64 77), (mk, 3, .slice none 0 0)] (V0.alloc (.cells #[.int .u64 0, .int .u32 7, .int .u64 77, .slice none 0 0] 32)) := Holds.below HS.out hb8
                have hS9 : Holds [(mk, 0, .int .u64 0), (mk, 1, .int .u32 7), (mk, 2, .int .u64 77), (mk, 3, .slice none 0 0)] ((V0.alloc (.cells #[.int .u64 0, .int .u32 7, .int .u64 77, .slice none 0 0] 32)).alloc (.cells made2 32)) := Holds.below HS.out hb9
                have HE := Lib.hid (show EntsOwn ((V0.alloc (.cells #[.int .u64 0, .int .u32 7, .int .u64 77, .slice none 0 0] 32)).alloc (.cells made2 32)) C (.slice (some ⟨(V0.heap.size + 1), 0, none⟩) 2 2) [zent, zent] from by have h := made_own (w := V0.alloc (.cells #[.int .u64 0, .int .u32 7, .int .u64 77, .slice none 0 0] 32)) (base := C) (m := 2) (by rw [hz8]; have := HG.out.s.lt; omega) (by decide) rfl; rw [hz8] at h; exact h)
                have HU := Lib.hid (show Blk ((V0.alloc (.cells #[.int .u64 0, .int .u32 7, .int .u64 77, .slice none 0 0] 32)).alloc (.cells made2 32)) V0.heap.size 32 #[.int .u64 0, .int .u32 7, .int .u64 77, .slice none 0 0] from (Blk.new V0 _ _).alloc (.cells made2 32))
                have HG9 := Lib.hid (show PS w ((V0.alloc (.cells #[.int .u64 0, .int .u32 7, .int .u64 77, .slice none 0 0] 32)).alloc (.cells made2 32)) ls ms N mk pk ca va ga B C (packsTo (bitF has) (lvF ls) (mvF ms) i) pb l (List.replicate m zent) m (some ⟨g, 0, none⟩) m from
                  ⟨HG.out.s.below hb9, HG.out.k.below hb9, HG.out.e.below hb9, HG.out.b, HG.out.len⟩)
                refine hK.out _ _ hS8 (fun _ => trivial) ?_
                clear hK
                refine one_D 0 rfl (by kernel_rfl) (fun KQ hK => ?_)
                go_simp
                have hz9 : (V0.alloc (.cells #[.int .u64 0, .int .u32 7, .int .u64 77, .slice none 0 0] 32)).heap.size + 1 = ((V0.alloc (.cells #[.int .u64 0, .int .u32 7, .int .u64 77, .slice none 0 0] 32)).alloc (.cells made2 32)).heap.size := (World.size_alloc _ _).symm
                have Hz9 := Lib.hid (show V0.heap.size + 2 = ((V0.alloc (.cells #[.int .u64 0, .int .u32 7, .int .u64 77, .slice none 0 0] 32)).alloc (.cells made2 32)).heap.size by rw [← hz9, hz8])
                refine hK.out _ _ hS9 (fun _ => trivial) ?_
                clear hK hb8 hz8 hb9 hS8 hz9 HG HS
                generalize (V0.alloc (.cells #[.int .u64 0, .int .u32 7, .int .u64 77, .slice none 0 0] 32)).alloc (.cells made2 32) = V1 at *
                refine one_D 3 rfl (by kernel_rfl) (fun KQ hK => ?_)
                refine Eq.mpr (if_pos (by rfl)) ?_
                obtain ⟨cs, hown, hEl⟩ := HE.out
                have Hown := Lib.hid hown
                have HEl := Lib.hid hEl
                clear hown hEl HE
                refine wp_append_own _ (.tmp 71) (.tmp 73) 33 rfl C 32 i0 _ 4 48 Try.underlying33 hi hz0 hz1 hz2 rfl (by decide) (.slice (some ⟨(V0.heap.size + 1), 0, none⟩) 2 2) 2 cs rfl Hown.out ⟨V0.heap.size, 0, none⟩ 1 1 [.int .u64 0, .int .u32 7, .int .u64 77, .slice none 0 0] rfl rfl ?a1 ?a2 (by decide) (by decide) (by have := HG9.out.s.lt; omega) ?_
                case a1 => exact news_of_block HU.out
                case a2 => intro u hu; simp at hu; rcases hu with rfl | rfl | rfl | rfl <;> rfl
                intro v5 w5 hown5 hgrow5 _
                obtain ⟨p5, c5, rfl⟩ := own_slice hown5
                have hEE : EntsOwn w5 C (.slice p5 3 c5) [zent, zent, markE] := EntsOwn.snoc (es := [zent, zent]) (e := markE) Hown.out HEl.out (s := .slice none 0 0) (World.ownsRow_nil _ _ _ _) hgrow5 hown5
                obtain ⟨hk5, hs5⟩ := HG9.out.kept Hown.out hgrow5
                obtain ⟨m0, m1, m2, m3, -⟩ := hs5.mr.c4
                have hS5 : Holds [(mk, 0, .int .u64 0), (mk, 1, .int .u32 7), (mk, 2, .int .u64 77), (mk, 3, .slice none 0 0)] w5 := ⟨m0, m1, m2, m3, trivial⟩
                have HP6 := Lib.hid (HG9.out.put Hown.out hgrow5 hEE rfl)
                obtain ⟨b0, b1, b2, b3, f0, f1, f2, f3, hzb⟩ := hk5.c4
                refine hK.out _ _ hS5 (fun _ => trivial) ?_
                clear hK hS9 hown5 hgrow5 hEE hk5 hs5 m0 m1 m2 m3 HG9 HU Hown HEl
                refine take_S (v := ?v4c2) 4 rfl (by kernel_rfl) (by kernel_rfl) (by kernel_rfl) (by kernel_rfl) (fun _ _ _ h => h) hS5 (fun _ => trivial) rfl (fun w' hq => ?h4c2) ?_
                case h4c2 => go_simp; try with_reducible rfl
                try simp only [Act.put, List.setIfInBounds_toArray, List.set_cons_zero, List.set_cons_succ, List.getElem_toArray, List.getElem_cons_succ, List.getElem_cons_zero]
                refine one_D 5 rfl (by kernel_rfl) (fun KQ hK => ?_)
                go_simp
                obtain ⟨m0, m1, m2, m3, -⟩ := HP6.out.s.mr.c4
                have hS6 : Holds [(mk, 0, .int .u64 0), (mk, 1, .int .u32 7), (mk, 2, .int .u64 77), (mk, 3, .slice none 0 0)] _ := ⟨m0, m1, m2, m3, trivial⟩
                refine hK.out _ _ hS6 (fun _ => trivial) ?_
                clear hK hS5 b0 b1 b2 b3 f0 f1 f2 f3 hzb m0 m1 m2 m3
                refine done_D (by kernel_rfl) ?_ _
                clear hS6
                go_wp2_with fail
                go_meet
                case rel => exact ⟨rfl, Lib.hid ⟨p5, c5, HP6.out⟩⟩
            case rest =>
              obtain ⟨rfl, HR3⟩ := hcut
              obtain ⟨p0, d0, hP⟩ := HR3.out
              have HP0 := Lib.hid hP
              clear hP HR3 HF
              go_wp2_with fail
              go_loopw [23] (fun kv wq => ∃ k : Nat, k ≤ m ∧ kv = .int .i64 k ∧ Hid (∃ p c, PS w wq ls ms N mk pk ca va ga B C (packsTo (bitF has) (lvF ls) (mvF ms) i) pb l (zent :: zent :: markE :: moreE k) (k + 3) p c)) (fun kv _ => m - (intOf kv).toNat)
              case atStart => exact ⟨0, Nat.zero_le _, rfl, Lib.hid ⟨p0, d0, HP0.out⟩⟩
              case round =>
                obtain ⟨k, hkm, rfl, HR3⟩ := hrel
                clear HP0
                obtain ⟨p1, d1, hP⟩ := HR3.out
                have HP := Lib.hid hP
                have c1 := u8s_at hP.s.km HK.out.ms (i := i) (by omega)
                rw [Hb.out] at c1
                obtain ⟨b0, b1, b2, b3, f0, f1, f2, f3, hzb⟩ := hP.k.c4
                obtain ⟨cs, hown, hEl⟩ := hP.e
                rw [hP.len] at hown
                have Hown := Lib.hid hown
                have HEl := Lib.hid hEl
                clear hP HR3 hown hEl
                by_cases hlk : k < m
                · go_wp2_with (at_builtin; refine wpList_append_own _ rfl _ _ 33 rfl C 32 i0 _ 4 48 Try.underlying33 hi hz0 hz1 hz2 rfl (by decide) _ (k + 3) cs rfl (own_alloc Hown.out _) ⟨wr.heap.size, 0, none⟩ 1 1 [.int .u64 0, .int .u32 0, .int .u64 (k : Int), .slice none 0 0] rfl rfl ?a1 ?a2 ?a3 ?a4 ?a5 ?_)
                  case a1 => exact news_of_block (heap_alloc_new _ _)
                  case a2 => intro u hu; simp at hu; rcases hu with rfl | rfl | rfl | rfl <;> rfl
                  case a3 => unfold maxLen; omega
                  case a4 => omega
                  case a5 => have := HP.out.s.lt; simp; omega
                  intro v5 w5 hown5 hgrow5 _
                  obtain ⟨p5, c5, rfl⟩ := own_slice hown5
                  have hba := (Below.refl wr.heap.size wr).alloc (Nat.le_refl _) (.cells #[.int .u64 0, .int .u32 0, .int .u64 (k : Int), .slice none 0 0] 32)
                  have HP1 := HP.out.below hba
                  have hEE : EntsOwn w5 C (.slice p5 (k + 3 + 1) c5) (zent :: zent :: markE :: moreE (k + 1)) := by
                    rw [moreE_succ]
                    have hl := moreE_len k
                    have h0 := own_alloc Hown.out (.cells #[.int .u64 0, .int .u32 0, .int .u64 (k : Int), .slice none 0 0] 32)
                    have hg5 := hgrow5
                    rw [← hl] at h0 hown5 hg5 ⊢
                    exact EntsOwn.snoc (e := ⟨0, 0, (k : Int), []⟩) h0 (HEl.out.imp fun c e _ ⟨s, hs, hq⟩ => ⟨s, hs, own_alloc hq _⟩) (World.ownsRow_nil _ _ _ _) hg5 hown5
                  obtain ⟨hk5, -⟩ := HP1.kept (own_alloc Hown.out _) hgrow5
                  have HP6 := Lib.hid (HP1.put (own_alloc Hown.out _) hgrow5 hEE (by rw [moreE_len]))
                  clear b0 b1 b2 b3 f0 f1 f2 f3 hzb c1
                  obtain ⟨b0, b1, b2, b3, f0, f1, f2, f3, hzb⟩ := hk5.c4
                  clear hown5 hgrow5 hEE hk5 HP1 HP Hown HEl hba
                  go_wp2_with fail
                  go_roundw
                  case rel => exact ⟨k + 1, by omega, by go_num, Lib.hid ⟨p5, c5, HP6.out⟩⟩
                  case measure => simp [intOf]; omega
                · obtain rfl : k = m := by omega
                  go_wp2_with fail
                  all_goals
                    go_meet
                    case rel => exact ⟨by show _ = Value.int .i64 (ct + 1); go_num, by congr 1; simp only [leI, if_true]; split <;> omega, rfl, Lib.hid ⟨p1, d1, k + 3, HP.out⟩⟩
          | false =>
            obtain ⟨b0, b1, b2, b3, f0, f1, f2, f3, hzb⟩ := HF.out.k.c4
            go_wp2_with fail
            all_goals
              go_meet
              case rel => exact ⟨rfl, rfl, by congr 1; simp only [geI, Bool.false_eq_true, if_false]; split <;> omega, Lib.hid ⟨_, _, m, HF.out⟩⟩
        case rest =>
          obtain ⟨rfl, rfl, rfl, HF2⟩ := hcut
          obtain ⟨p2, d2, nn, hP⟩ := HF2.out
          have HP := Lib.hid hP
          obtain ⟨b0, b1, b2, b3, f0, f1, f2, f3, hzb⟩ := hP.k.c4
          obtain ⟨u0, u1, u2, u3, c0, c1, c2, c3, ff, hzp⟩ := hP.s.cells (i := i) (by omega)
          have g0 := ff (i * 4)
          have g1 := ff (i * 4 + 1)
          have g2 := ff (i * 4 + 2)
          have g3 := ff (i * 4 + 3)
          clear hP HF2 HF ff
          go_wp2_with fail
          go_roundw
          case rel =>
            refine ⟨i + 1, by omega, by go_num, ?_, ?_, ?_, ?_⟩
            · rw [show cntI (bitF has) (i + 1) = upI (bitF has i) (cntI (bitF has) i) from rfl, Hbv.out, Hct.out]
            · rw [show leastI (bitF has) (lvF ls) (i + 1) = leI (bitF has i) (leastI (bitF has) (lvF ls) i) (lvF ls i) from rfl, Hbv.out, Hle.out, Hl.out]
            · rw [show greatI (bitF has) (lvF ls) (i + 1) = geI (bitF has i) (greatI (bitF has) (lvF ls) i) (lvF ls i) from rfl, Hbv.out, Hgr.out, Hl.out]
            · have h := HP.out.s.store (i := i) (by omega) (l := l) (b := 8) (c := 8) HP.out.e rfl
              rw [packsTo_step (p := ⟨l, 8, 8, esOf m bv⟩) (by omega) (by unfold nodeP; rw [Hl.out, Hm.out, Hbv.out]; rfl)] at h
              exact Lib.hid ⟨_, h⟩
          case measure => simp [intOf]; omega
    · obtain rfl : i = N := by omega
      have HO := Lib.hid HR.out.hand
      clear HR hlt hiN
      obtain ⟨ct, hct⟩ : ∃ x, cntI (bitF has) i = x := ⟨_, rfl⟩
      obtain ⟨le, hle⟩ : ∃ x, leastI (bitF has) (lvF ls) i = x := ⟨_, rfl⟩
      obtain ⟨gr, hgr⟩ : ∃ x, greatI (bitF has) (lvF ls) i = x := ⟨_, rfl⟩
      have hct0 : 0 ≤ ct ∧ ct ≤ i := by rw [← hct]; exact cntI_le i
      obtain ⟨hct0, hct1⟩ := hct0
      have Hct := Lib.hid hct
      have Hle := Lib.hid hle
      have Hgr := Lib.hid hgr
      rw [hct, hle, hgr]
      clear hct hle hgr
      generalize hN : i = N at *
      clear hN
      have HPS := Lib.hid (show ∃ qs, qs = packsTo (bitF has) (lvF ls) (mvF ms) N from ⟨_, rfl⟩)
      go_wp2_with fail
      go_loopw [24, 25] (fun td iv wr => ∃ i : Nat, i ≤ N ∧ iv = .int .i64 i ∧ td = .int .i64 ((whoL (hdR (onF who) tu N i)).length : Nat) ∧ Hid (∃ S, HS w wr S N mk pk ca va ga B C (packsTo (bitF has) (lvF ls) (mvF ms) N) (hdR (onF who) tu N i) (pdR (bitF has) (onF who) (lvF ls) (mvF ms) tu N i))) (fun _ iv _ => N - (intOf iv).toNat)
      case atStart => exact ⟨0, Nat.zero_le _, rfl, rfl, Lib.hid ⟨_, HO.out⟩⟩
      case round =>
        obtain ⟨i, hiN, rfl, rfl, HR⟩ := hrel
        obtain ⟨S, hR⟩ := HR.out
        have HO1 := Lib.hid hR
        clear hR HR HO
        by_cases hlt : i < N
        · go_upto_if 112 with fail
          obtain ⟨k, hk⟩ : ∃ x, kAt tu N i = x := ⟨_, rfl⟩
          have hkN : k < N := by rw [← hk]; exact kAt_lt hlt
          have Hk := Lib.hid hk
          go_cut [26] (fun kv wx => kv = .int .i64 (k : Int) ∧ Hid (HS w wx S N mk pk ca va ga B C (packsTo (bitF has) (lvF ls) (mvF ms) N) (hdR (onF who) tu N i) (pdR (bitF has) (onF who) (lvF ls) (mvF ms) tu N i)))
          case first =>
            cases tu with
            | true =>
              have hkv : (N : Int) - 1 - (i : Int) = (k : Int) := by rw [← hk]; unfold kAt; simp; omega
              clear hk
              go_wp2_with fail
              go_meet
              case rel => exact ⟨rfl, HO1⟩
            | false =>
              have hkv : i = k := by rw [← hk]; rfl
              clear hk
              go_wp2_with fail
              go_meet
              case rel => exact ⟨by rw [hkv], HO1⟩
          case rest =>
            clear hk
            obtain ⟨rfl, HO⟩ := hcut
            clear HO1
            obtain ⟨bv, hbv⟩ : ∃ x, (bits BinOp.and IntKind.u8 (who / 2 ^ k) 1 == 0) = x := ⟨_, rfl⟩
            have Hbv := Lib.hid (show onF who (kAt tu N i) = !bv from by rw [Hk.out]; unfold onF offF; rw [hbv])
            have hi7 : (k : Int) < 7 := by omega
            go_upto_if 121 with fail
            clear hbv
            cases bv with
            | true =>
              have hst := told_stay (hb := bitF has) (lv := lvF ls) (mv := mvF ms) (wb := onF who) (n := N) Hbv.out
              have Hst := Lib.hid hst
              clear hst
              go_wp2_with fail
              go_roundw
              case rel => exact ⟨i + 1, by omega, by go_num, by rw [Hst.out.1], Lib.hid ⟨S, by rw [Hst.out.1, Hst.out.2]; exact HO.out⟩⟩
              case measure => simp [intOf]; omega
            | false =>
              obtain ⟨P1, hP1⟩ : ∃ x, (packsTo (bitF has) (lvF ls) (mvF ms) N).getD k noPk = x := ⟨_, rfl⟩
              have hnk : nodeP (bitF has) (lvF ls) (mvF ms) k = P1 := by rw [← hP1]; exact (packsTo_at hkN (by omega)).symm
              obtain ⟨sp, sc, c0, c1, c2, c3, hq, hzp⟩ := HO.out.pack (i := k) (by omega) hP1
              have HQ := Lib.hid hq
              have Hnk := Lib.hid hnk
              clear hP1 hq hnk
              obtain ⟨td, htd⟩ : ∃ x, (whoL (hdR (onF who) tu N i)).length = x := ⟨_, rfl⟩
              have htd7 : td ≤ 7 := by rw [← htd]; have := whoL_le (hdR (onF who) tu N i); rw [hdR_len] at this; exact this
              have Htd := Lib.hid htd
              rw [htd]
              clear htd
              obtain ⟨h', hh'⟩ : ∃ x, hdR (onF who) tu N (i + 1) = x := ⟨_, rfl⟩
              have hts := told_step (wb := onF who) (tu := tu) (n := N) hn7 hlt (by rw [Hbv.out]; rfl)
              rw [hh', Htd.out] at hts
              have Hts := Lib.hid hts
              have hh1 : (hdR (onF who) tu N i).set k true = h' := by rw [← hh', hdR, setM, Hbv.out, Hk.out]; rfl
              have Hh1 := Lib.hid hh1
              have Hh' := Lib.hid hh'
              have hp1 : (pdR (bitF has) (onF who) (lvF ls) (mvF ms) tu N i).set k P1 = pdR (bitF has) (onF who) (lvF ls) (mvF ms) tu N (i + 1) := by rw [pdR, setM, Hbv.out, Hk.out, Hnk.out]; rfl
              have Hp1 := Lib.hid hp1
              have hmay : mayB P1.l P1.b P1.c P1.es = true ∧ P1.b = 8 ∧ Fits P1.es ∧ P1.es.length ≤ 64 := by
                have hx := pkOf_ok (l := lvF ls k) (m := mvF ms k) (b := bitF has k) (lvF_le ls k) (mvF_le ms k)
                have hy : pkOf (lvF ls k) (mvF ms k) (bitF has k) = P1 := Hnk.out
                rw [hy] at hx
                refine ⟨hx.may, ?_, hx.parts.2.2.1, hx.parts.1⟩
                rw [← hy]
                rfl
              obtain ⟨xv, hxv⟩ : ∃ x, justB (hdR (onF who) tu N i) h' ((N : Int) / 2 + 1) = x := ⟨_, rfl⟩
              have Hxv := Lib.hid hxv
              have hxt : ((td : Int) + 1 == (N : Int) / 2 + 1) = xv := by rw [← hxv]; unfold justB; rw [Hts.out, Htd.out, Bool.eq_iff_iff]; simp; omega
              have Hmay := Lib.hid hmay
              clear hh' hts hh1 hp1 hmay hxv
              go_wp2_with fail
              have HH := Lib.hid (ch_Hand (k := k) (T := fun j => B ≤ j ∧ j < C) (l := P1.l) (b := P1.b) (c := P1.c) HO.out.c HK.out.ok (by omega) HQ.out Hmay.out.2.2.1 (fun j hj => by have := HO.out.lt; omega) (fun hg => by have := HO.out.lt; omega) HO.out.s Hmay.out.1 (by rw [Hmay.out.2.1]; decide) (by have := Hmay.out.2.2.2; omega) Hh1.out)
              refine HH.out.mono ?_
              clear HH
              rw [Hxv.out]
              rintro x V1 ⟨rfl, hC, hE⟩
              generalize hSa : More S wc V1 = S1 at hC
              have HO2 := Lib.hid (HO.out.step hC hE (by rw [← hSa]; exact more_sz hE.size))
              clear hC hE hSa HO HQ c0 c1 c2 c3 hzp
              go_wp2_with fail
              go_roundw
              case rel => exact ⟨i + 1, by omega, by go_num, by rw [Hh'.out, Hts.out]; go_num, Lib.hid ⟨S1, by rw [Hh'.out, ← Hp1.out]; exact HO2.out⟩⟩
              case measure => simp [intOf]; omega
        · obtain rfl : i = N := by omega
          clear hlt hiN
          generalize hN : i = N at *
          clear hN
          have Hlaw := Lib.hid (keeps_law (hb := bitF has) (wb := onF who) (lv := lvF ls) (mv := mvF ms) (tu := tu) hn7 (mvF_le ms))
          have Hok := Lib.hid (pdR_ok (hb := bitF has) (wb := onF who) (lv := lvF ls) (mv := mvF ms) (tu := tu) (n := N) (lvF_le ls) (mvF_le ms) N)
          have Hwl := Lib.hid (show (whoL (hdR (onF who) tu N N)).length ≤ 7 by have := whoL_le (hdR (onF who) tu N N); rw [hdR_len] at this; exact this)
          generalize hdR (onF who) tu N N = h at *
          generalize pdR (bitF has) (onF who) (lvF ls) (mvF ms) tu N N = pd at *
          obtain ⟨td, htd⟩ : ∃ x, (whoL h).length = x := ⟨_, rfl⟩
          rw [htd] at Hlaw Hwl ⊢
          have htd7 : td ≤ 7 := Hwl.out
          have Htd := Lib.hid htd
          clear htd Hwl
          by_cases hen : (N : Int) / 2 + 1 ≤ (td : Int)
          · go_wp2_with fail
            refine (ch_Best HO1.out.c HK.out.ok HO1.out.s Hok.out (by rw [Htd.out]; exact hen)).mono ?_
            rintro x V1 ⟨p1, c1, rfl, hO, hb⟩
            generalize hBq : bestOf pd (whoL h) = Bq at hO ⊢
            have HBq := Lib.hid hBq
            have HO2 := Lib.hid (HO1.out.below hb)
            have EA1 := Lib.hid (hO.base (Nat.zero_le _))
            obtain ⟨Bl, Bb, Bc, Be⟩ := Bq
            clear hO hb HO1 hBq
            go_upto_region 35 with fail
            have hb := (Below.refl V1.heap.size V1).alloc (Nat.le_refl _) (.cells #[.int .u64 Bl, .int .u64 Bb, .int .u64 Bc, .slice p1 Be.length c1] 35)
            have KA := Lib.hid (Blk.new V1 35 #[.int .u64 Bl, .int .u64 Bb, .int .u64 Bc, .slice p1 Be.length c1])
            have HO3 := Lib.hid (HO2.out.below hb)
            have EA2 := Lib.hid (EA1.out.below hb)
            clear hb HO2 EA1
            generalize V1.alloc (.cells #[.int .u64 Bl, .int .u64 Bb, .int .u64 Bc, .slice p1 Be.length c1] 35) = V2 at *
            by_cases hcc : ct < (N : Int) / 2 + 1
            · go_wp2_with fail
              refine wakes_true.mono ?_
              rintro x V6 ⟨rfl, hb⟩
              have HO6 := Lib.hid (HO3.out.below hb)
              clear hb HO3
              go_wp2_with fail
              go_ret
              exact ⟨rfl, HO6.out.bl⟩
            · by_cases hcn : ct < (N : Int)
              · by_cases hlg : le < gr
                · go_wp2_with fail
                  refine wakes_true.mono ?_
                  rintro x V6 ⟨rfl, hb⟩
                  have HO6 := Lib.hid (HO3.out.below hb)
                  clear hb HO3
                  go_wp2_with fail
                  go_ret
                  exact ⟨rfl, HO6.out.bl⟩
                · obtain ⟨rest, hrest⟩ := Hlaw.out (by omega) (by have := Hct.out; omega) (by rw [Hct.out, Hle.out, Hgr.out]; omega)
                  rw [HBq.out] at hrest
                  obtain ⟨g8, s8, rfl, hlen8, hc8, a0, a1, a2, a3, hcmd⟩ := third_of EA2.out hrest
                  obtain ⟨p8, d8, rfl⟩ := own_slice hcmd
                  have hn8 : Be.length = rest.length + 3 := hlen8
                  rw [hn8] at KA hc8
                  have hr3 : (3 : Int) ≤ (rest.length : Int) + 3 := by omega
                  have hr2 : (2 : Int) < (rest.length : Int) + 3 := by omega
                  obtain ⟨m0, m1, m2, m3, -⟩ := HO3.out.mr.c4
                  have HC := Lib.hid hcmd
                  have hS : Holds [(V1.heap.size, 3, .slice (some ⟨g8, 0, none⟩) (rest.length + 3) c1), (g8, 8, .int .u64 0), (g8, 9, .int .u32 7), (g8, 10, .int .u64 77), (g8, 11, .slice p8 0 d8), (mk, 0, .int .u64 0), (mk, 1, .int .u32 7), (mk, 2, .int .u64 77), (mk, 3, .slice none 0 0)] V2.drew := ⟨KA.out.cell 3, a0, a1, a2, a3, m0, m1, m2, m3, trivial⟩
                  have HZ := Lib.hid KA.out.lt
                  clear a0 a1 a2 a3 m0 m1 m2 m3 hcmd hrest hlen8
                  go_upto_region 39 with fail
                  refine begin_D (T := Hold0) [] (by kernel_rfl) hS (fun _ => trivial) ?_
                  refine take_S (v := ?v0y) 0 rfl (by kernel_rfl) (by kernel_rfl) (by kernel_rfl) (by kernel_rfl) (fun _ _ _ h => h) hS (fun _ => trivial) rfl (fun w' hq => ?h0y) ?_
                  case h0y => go_simp; try with_reducible rfl
                  try simp only [Act.put, List.setIfInBounds_toArray, List.set_cons_zero, List.set_cons_succ, List.getElem_toArray, List.getElem_cons_succ, List.getElem_cons_zero]
                  refine take_S (v := ?v1y) 1 rfl (by kernel_rfl) (by kernel_rfl) (by kernel_rfl) (by kernel_rfl) (fun _ _ _ h => h) hS (fun _ => trivial) rfl (fun w' hq => ?h1y) ?_
                  case h1y => obtain ⟨q0, q1, q2, q3, q4, q5, q6, q7, q8, -⟩ := hq; change _ = some _ at q0; change _ = some _ at q1; change _ = some _ at q2; change _ = some _ at q3; change _ = some _ at q4; change _ = some _ at q5; change _ = some _ at q6; change _ = some _ at q7; change _ = some _ at q8; go_simp; try with_reducible rfl
                  try simp only [Act.put, List.setIfInBounds_toArray, List.set_cons_zero, List.set_cons_succ, List.getElem_toArray, List.getElem_cons_succ, List.getElem_cons_zero]
                  refine take_S (v := ?v2y) 2 rfl (by kernel_rfl) (by kernel_rfl) (by kernel_rfl) (by kernel_rfl) (fun _ _ _ h => h) hS (fun _ => trivial) rfl (fun w' hq => ?h2y) ?_
                  case h2y => go_simp; try with_reducible rfl
                  try simp only [Act.put, List.setIfInBounds_toArray, List.set_cons_zero, List.set_cons_succ, List.getElem_toArray, List.getElem_cons_succ, List.getElem_cons_zero]
                  refine take_S (v := (.bool true)) 3 rfl (by kernel_rfl) (by kernel_rfl) (by kernel_rfl) (by kernel_rfl) (fun _ _ _ h => h) hS (fun _ => trivial) rfl (fun w' hq => ?h3y) ?_
                  case h3y => go_simp; try omega
                  try simp only [Act.put, List.setIfInBounds_toArray, List.set_cons_zero, List.set_cons_succ, List.getElem_toArray, List.getElem_cons_succ, List.getElem_cons_zero]
                  refine take_S (v := ?v4y) 4 rfl (by kernel_rfl) (by kernel_rfl) (by kernel_rfl) (by kernel_rfl) (fun _ _ _ h => h) hS (fun _ => trivial) rfl (fun w' hq => ?h4y) ?_
                  case h4y => go_simp; try with_reducible rfl
                  try simp only [Act.put, List.setIfInBounds_toArray, List.set_cons_zero, List.set_cons_succ, List.getElem_toArray, List.getElem_cons_succ, List.getElem_cons_zero]
                  refine take_S (v := ?v5y) 5 rfl (by kernel_rfl) (by kernel_rfl) (by kernel_rfl) (by kernel_rfl) (fun _ _ _ h => h) hS (fun _ => trivial) rfl (fun w' hq => ?h5y) ?_
                  case h5y => go_simp; try with_reducible rfl
                  try simp only [Act.put, List.setIfInBounds_toArray, List.set_cons_zero, List.set_cons_succ, List.getElem_toArray, List.getElem_cons_succ, List.getElem_cons_zero]
                  refine take_S (v := ?v6y) 6 rfl (by kernel_rfl) (by kernel_rfl) (by kernel_rfl) (by kernel_rfl) (fun _ _ _ h => h) hS (fun _ => trivial) rfl (fun w' hq => ?h6y) ?_
                  case h6y => obtain ⟨q0, q1, q2, q3, q4, q5, q6, q7, q8, -⟩ := hq; change _ = some _ at q0; change _ = some _ at q1; change _ = some _ at q2; change _ = some _ at q3; change _ = some _ at q4; change _ = some _ at q5; change _ = some _ at q6; change _ = some _ at q7; change _ = some _ at q8; go_simp; try with_reducible rfl
                  try simp only [Act.put, List.setIfInBounds_toArray, List.set_cons_zero, List.set_cons_succ, List.getElem_toArray, List.getElem_cons_succ, List.getElem_cons_zero]
                  refine take_S (v := ?v7y) 7 rfl (by kernel_rfl) (by kernel_rfl) (by kernel_rfl) (by kernel_rfl) (fun _ _ _ h => h) hS (fun _ => trivial) rfl (fun w' hq => ?h7y) ?_
                  case h7y => go_simp; try with_reducible rfl
                  try simp only [Act.put, List.setIfInBounds_toArray, List.set_cons_zero, List.set_cons_succ, List.getElem_toArray, List.getElem_cons_succ, List.getElem_cons_zero]
                  refine take_S (v := ?v8y) 8 rfl (by kernel_rfl) (by kernel_rfl) (by kernel_rfl) (by kernel_rfl) (fun _ _ _ h => h) hS (fun _ => trivial) rfl (fun w' hq => ?h8y) ?_
                  case h8y => obtain ⟨q0, q1, q2, q3, q4, q5, q6, q7, q8, -⟩ := hq; change _ = some _ at q0; change _ = some _ at q1; change _ = some _ at q2; change _ = some _ at q3; change _ = some _ at q4; change _ = some _ at q5; change _ = some _ at q6; change _ = some _ at q7; change _ = some _ at q8; go_simp; try with_reducible rfl
                  try simp only [Act.put, List.setIfInBounds_toArray, List.set_cons_zero, List.set_cons_succ, List.getElem_toArray, List.getElem_cons_succ, List.getElem_cons_zero]
                  refine take_S (v := ?v9y) 9 rfl (by kernel_rfl) (by kernel_rfl) (by kernel_rfl) (by kernel_rfl) (fun _ _ _ h => h) hS (fun _ => trivial) rfl (fun w' hq => ?h9y) ?_
                  case h9y => obtain ⟨q0, q1, q2, q3, q4, q5, q6, q7, q8, -⟩ := hq; change _ = some _ at q0; change _ = some _ at q1; change _ = some _ at q2; change _ = some _ at q3; change _ = some _ at q4; change _ = some _ at q5; change _ = some _ at q6; change _ = some _ at q7; change _ = some _ at q8; go_simp; try with_reducible rfl
                  try simp only [Act.put, List.setIfInBounds_toArray, List.set_cons_zero, List.set_cons_succ, List.getElem_toArray, List.getElem_cons_succ, List.getElem_cons_zero]
                  refine one_D 10 rfl (by kernel_rfl) (fun KQ hK => ?_)
                  go_simp
                  refine (log_Same (e := markE) (f := markE) (Rd.of_own HC.out).drew (Rd.nil _ (fun _ => False) 1)).mono ?_
                  rintro x V3 ⟨rfl, hb⟩
                  rw [show sameB markE markE = true from sameB_self _]
                  have hS2 : Holds [(V1.heap.size, 3, .slice (some ⟨g8, 0, none⟩) (rest.length + 3) c1), (g8, 8, .int .u64 0), (g8, 9, .int .u32 7), (g8, 10, .int .u64 77), (g8, 11, .slice p8 0 d8), (mk, 0, .int .u64 0), (mk, 1, .int .u32 7), (mk, 2, .int .u64 77), (mk, 3, .slice none 0 0)] V3 := Holds.below hS hb
                  have HO4 := Lib.hid (HO3.out.below ((Below.refl _ V2).drew.trans hb))
                  refine hK.out _ _ hS2 (fun _ => trivial) ?_
                  clear hK hS hb HO3
                  refine take_S (v := ?v11y) 11 rfl (by kernel_rfl) (by kernel_rfl) (by kernel_rfl) (by kernel_rfl) (fun _ _ _ h => h) hS2 (fun _ => trivial) rfl (fun w' hq => ?h11y) ?_
                  case h11y => go_simp; try with_reducible rfl
                  try simp only [Act.put, List.setIfInBounds_toArray, List.set_cons_zero, List.set_cons_succ, List.getElem_toArray, List.getElem_cons_succ, List.getElem_cons_zero]
                  refine take_S (v := ?v12y) 12 rfl (by kernel_rfl) (by kernel_rfl) (by kernel_rfl) (by kernel_rfl) (fun _ _ _ h => h) hS2 (fun _ => trivial) rfl (fun w' hq => ?h12y) ?_
                  case h12y => go_simp; try with_reducible rfl
                  try simp only [Act.put, List.setIfInBounds_toArray, List.set_cons_zero, List.set_cons_succ, List.getElem_toArray, List.getElem_cons_succ, List.getElem_cons_zero]
                  refine one_D 13 rfl (by kernel_rfl) (fun KQ hK => ?_)
                  go_simp
                  refine wakes_true.mono ?_
                  rintro x V6 ⟨rfl, hb⟩
                  have hS3 : Holds [(V1.heap.size, 3, .slice (some ⟨g8, 0, none⟩) (rest.length + 3) c1), (g8, 8, .int .u64 0), (g8, 9, .int .u32 7), (g8, 10, .int .u64 77), (g8, 11, .slice p8 0 d8), (mk, 0, .int .u64 0), (mk, 1, .int .u32 7), (mk, 2, .int .u64 77), (mk, 3, .slice none 0 0)] V6 := Holds.below hS2 hb
                  have HO6 := Lib.hid (HO4.out.below hb)
                  refine hK.out _ _ hS3 (fun _ => trivial) ?_
                  clear hK hS2 hb HO4
                  refine take_S (v := ?v14y) 14 rfl (by kernel_rfl) (by kernel_rfl) (by kernel_rfl) (by kernel_rfl) (fun _ _ _ h => h) hS3 (fun _ => trivial) rfl (fun w' hq => ?h14y) ?_
                  case h14y => go_simp; try with_reducible rfl
                  try simp only [Act.put, List.setIfInBounds_toArray, List.set_cons_zero, List.set_cons_succ, List.getElem_toArray, List.getElem_cons_succ, List.getElem_cons_zero]
                  refine take_S (v := ?v15y) 15 rfl (by kernel_rfl) (by kernel_rfl) (by kernel_rfl) (by kernel_rfl) (fun _ _ _ h => h) hS3 (fun _ => trivial) rfl (fun w' hq => ?h15y) ?_
                  case h15y => go_simp; try with_reducible rfl
                  try simp only [Act.put, List.setIfInBounds_toArray, List.set_cons_zero, List.set_cons_succ, List.getElem_toArray, List.getElem_cons_succ, List.getElem_cons_zero]
                  refine done_D (by kernel_rfl) ?_ _
                  clear hS3
                  go_wp2_with fail
                  go_ret
                  exact ⟨rfl, HO6.out.bl⟩
              · obtain ⟨rest, hrest⟩ := Hlaw.out (by omega) (by have := Hct.out; omega) (by rw [Hct.out, Hle.out, Hgr.out]; omega)
                rw [HBq.out] at hrest
                obtain ⟨g8, s8, rfl, hlen8, hc8, a0, a1, a2, a3, hcmd⟩ := third_of EA2.out hrest
                obtain ⟨p8, d8, rfl⟩ := own_slice hcmd
                have hn8 : Be.length = rest.length + 3 := hlen8
                rw [hn8] at KA hc8
                have hr3 : (3 : Int) ≤ (rest.length : Int) + 3 := by omega
                have hr2 : (2 : Int) < (rest.length : Int) + 3 := by omega
                obtain ⟨m0, m1, m2, m3, -⟩ := HO3.out.mr.c4
                have HC := Lib.hid hcmd
                have hS : Holds [(V1.heap.size, 3, .slice (some ⟨g8, 0, none⟩) (rest.length + 3) c1), (g8, 8, .int .u64 0), (g8, 9, .int .u32 7), (g8, 10, .int .u64 77), (g8, 11, .slice p8 0 d8), (mk, 0, .int .u64 0), (mk, 1, .int .u32 7), (mk, 2, .int .u64 77), (mk, 3, .slice none 0 0)] V2.drew := ⟨KA.out.cell 3, a0, a1, a2, a3, m0, m1, m2, m3, trivial⟩
                have HZ := Lib.hid KA.out.lt
                clear a0 a1 a2 a3 m0 m1 m2 m3 hcmd hrest hlen8
                go_upto_region 39 with fail
                refine begin_D (T := Hold0) [] (by kernel_rfl) hS (fun _ => trivial) ?_
                refine take_S (v := ?v0z) 0 rfl (by kernel_rfl) (by kernel_rfl) (by kernel_rfl) (by kernel_rfl) (fun _ _ _ h => h) hS (fun _ => trivial) rfl (fun w' hq => ?h0z) ?_
                case h0z => go_simp; try with_reducible rfl
                try simp only [Act.put, List.setIfInBounds_toArray, List.set_cons_zero, List.set_cons_succ, List.getElem_toArray, List.getElem_cons_succ, List.getElem_cons_zero]
                refine take_S (v := ?v1z) 1 rfl (by kernel_rfl) (by kernel_rfl) (by kernel_rfl) (by kernel_rfl) (fun _ _ _ h => h) hS (fun _ => trivial) rfl (fun w' hq => ?h1z) ?_
                case h1z => obtain ⟨q0, q1, q2, q3, q4, q5, q6, q7, q8, -⟩ := hq; change _ = some _ at q0; change _ = some _ at q1; change _ = some _ at q2; change _ = some _ at q3; change _ = some _ at q4; change _ = some _ at q5; change _ = some _ at q6; change _ = some _ at q7; change _ = some _ at q8; go_simp; try with_reducible rfl
                try simp only [Act.put, List.setIfInBounds_toArray, List.set_cons_zero, List.set_cons_succ, List.getElem_toArray, List.getElem_cons_succ, List.getElem_cons_zero]
                refine take_S (v := ?v2z) 2 rfl (by kernel_rfl) (by kernel_rfl) (by kernel_rfl) (by kernel_rfl) (fun _ _ _ h => h) hS (fun _ => trivial) rfl (fun w' hq => ?h2z) ?_
                case h2z => go_simp; try with_reducible rfl
                try simp only [Act.put, List.setIfInBounds_toArray, List.set_cons_zero, List.set_cons_succ, List.getElem_toArray, List.getElem_cons_succ, List.getElem_cons_zero]
                refine take_S (v := (.bool true)) 3 rfl (by kernel_rfl) (by kernel_rfl) (by kernel_rfl) (by kernel_rfl) (fun _ _ _ h => h) hS (fun _ => trivial) rfl (fun w' hq => ?h3z) ?_
                case h3z => go_simp; try omega
                try simp only [Act.put, List.setIfInBounds_toArray, List.set_cons_zero, List.set_cons_succ, List.getElem_toArray, List.getElem_cons_succ, List.getElem_cons_zero]
                refine take_S (v := ?v4z) 4 rfl (by kernel_rfl) (by kernel_rfl) (by kernel_rfl) (by kernel_rfl) (fun _ _ _ h => h) hS (fun _ => trivial) rfl (fun w' hq => ?h4z) ?_
                case h4z => go_simp; try with_reducible rfl
                try simp only [Act.put, List.setIfInBounds_toArray, List.set_cons_zero, List.set_cons_succ, List.getElem_toArray, List.getElem_cons_succ, List.getElem_cons_zero]
                refine take_S (v := ?v5z) 5 rfl (by kernel_rfl) (by kernel_rfl) (by kernel_rfl) (by kernel_rfl) (fun _ _ _ h => h) hS (fun _ => trivial) rfl (fun w' hq => ?h5z) ?_
                case h5z => go_simp; try with_reducible rfl
                try simp only [Act.put, List.setIfInBounds_toArray, List.set_cons_zero, List.set_cons_succ, List.getElem_toArray, List.getElem_cons_succ, List.getElem_cons_zero]
                refine take_S (v := ?v6z) 6 rfl (by kernel_rfl) (by kernel_rfl) (by kernel_rfl) (by kernel_rfl) (fun _ _ _ h => h) hS (fun _ => trivial) rfl (fun w' hq => ?h6z) ?_
                case h6z => obtain ⟨q0, q1, q2, q3, q4, q5, q6, q7, q8, -⟩ := hq; change _ = some _ at q0; change _ = some _ at q1; change _ = some _ at q2; change _ = some _ at q3; change _ = some _ at q4; change _ = some _ at q5; change _ = some _ at q6; change _ = some _ at q7; change _ = some _ at q8; go_simp; try with_reducible rfl
                try simp only [Act.put, List.setIfInBounds_toArray, List.set_cons_zero, List.set_cons_succ, List.getElem_toArray, List.getElem_cons_succ, List.getElem_cons_zero]
                refine take_S (v := ?v7z) 7 rfl (by kernel_rfl) (by kernel_rfl) (by kernel_rfl) (by kernel_rfl) (fun _ _ _ h => h) hS (fun _ => trivial) rfl (fun w' hq => ?h7z) ?_
                case h7z => go_simp; try with_reducible rfl
                try simp only [Act.put, List.setIfInBounds_toArray, List.set_cons_zero, List.set_cons_succ, List.getElem_toArray, List.getElem_cons_succ, List.getElem_cons_zero]
                refine take_S (v := ?v8z) 8 rfl (by kernel_rfl) (by kernel_rfl) (by kernel_rfl) (by kernel_rfl) (fun _ _ _ h => h) hS (fun _ => trivial) rfl (fun w' hq => ?h8z) ?_
                case h8z => obtain ⟨q0, q1, q2, q3, q4, q5, q6, q7, q8, -⟩ := hq; change _ = some _ at q0; change _ = some _ at q1; change _ = some _ at q2; change _ = some _ at q3; change _ = some _ at q4; change _ = some _ at q5; change _ = some _ at q6; change _ = some _ at q7; change _ = some _ at q8; go_simp; try with_reducible rfl
                try simp only [Act.put, List.setIfInBounds_toArray, List.set_cons_zero, List.set_cons_succ, List.getElem_toArray, List.getElem_cons_succ, List.getElem_cons_zero]
                refine take_S (v := ?v9z) 9 rfl (by kernel_rfl) (by kernel_rfl) (by kernel_rfl) (by kernel_rfl) (fun _ _ _ h => h) hS (fun _ => trivial) rfl (fun w' hq => ?h9z) ?_
                case h9z => obtain ⟨q0, q1, q2, q3, q4, q5, q6, q7, q8, -⟩ := hq; change _ = some _ at q0; change _ = some _ at q1; change _ = some _ at q2; change _ = some _ at q3; change _ = some _ at q4; change _ = some _ at q5; change _ = some _ at q6; change _ = some _ at q7; change _ = some _ at q8; go_simp; try with_reducible rfl
                try simp only [Act.put, List.setIfInBounds_toArray, List.set_cons_zero, List.set_cons_succ, List.getElem_toArray, List.getElem_cons_succ, List.getElem_cons_zero]
                refine one_D 10 rfl (by kernel_rfl) (fun KQ hK => ?_)
                go_simp
                refine (log_Same (e := markE) (f := markE) (Rd.of_own HC.out).drew (Rd.nil _ (fun _ => False) 1)).mono ?_
                rintro x V3 ⟨rfl, hb⟩
                rw [show sameB markE markE = true from sameB_self _]
                have hS2 : Holds [(V1.heap.size, 3, .slice (some ⟨g8, 0, none⟩) (rest.length + 3) c1), (g8, 8, .int .u64 0), (g8, 9, .int .u32 7), (g8, 10, .int .u64 77), (g8, 11, .slice p8 0 d8), (mk, 0, .int .u64 0), (mk, 1, .int .u32 7), (mk, 2, .int .u64 77), (mk, 3, .slice none 0 0)] V3 := Holds.below hS hb
                have HO4 := Lib.hid (HO3.out.below ((Below.refl _ V2).drew.trans hb))
                refine hK.out _ _ hS2 (fun _ => trivial) ?_
                clear hK hS hb HO3
                refine take_S (v := ?v11z) 11 rfl (by kernel_rfl) (by kernel_rfl) (by kernel_rfl) (by kernel_rfl) (fun _ _ _ h => h) hS2 (fun _ => trivial) rfl (fun w' hq => ?h11z) ?_
                case h11z => go_simp; try with_reducible rfl
                try simp only [Act.put, List.setIfInBounds_toArray, List.set_cons_zero, List.set_cons_succ, List.getElem_toArray, List.getElem_cons_succ, List.getElem_cons_zero]
                refine take_S (v := ?v12z) 12 rfl (by kernel_rfl) (by kernel_rfl) (by kernel_rfl) (by kernel_rfl) (fun _ _ _ h => h) hS2 (fun _ => trivial) rfl (fun w' hq => ?h12z) ?_
                case h12z => go_simp; try with_reducible rfl
                try simp only [Act.put, List.setIfInBounds_toArray, List.set_cons_zero, List.set_cons_succ, List.getElem_toArray, List.getElem_cons_succ, List.getElem_cons_zero]
                refine one_D 13 rfl (by kernel_rfl) (fun KQ hK => ?_)
                go_simp
                refine wakes_true.mono ?_
                rintro x V6 ⟨rfl, hb⟩
                have hS3 : Holds [(V1.heap.size, 3, .slice (some ⟨g8, 0, none⟩) (rest.length + 3) c1), (g8, 8, .int .u64 0), (g8, 9, .int .u32 7), (g8, 10, .int .u64 77), (g8, 11, .slice p8 0 d8), (mk, 0, .int .u64 0), (mk, 1, .int .u32 7), (mk, 2, .int .u64 77), (mk, 3, .slice none 0 0)] V6 := Holds.below hS2 hb
                have HO6 := Lib.hid (HO4.out.below hb)
                refine hK.out _ _ hS3 (fun _ => trivial) ?_
                clear hK hS2 hb HO4
                refine take_S (v := ?v14z) 14 rfl (by kernel_rfl) (by kernel_rfl) (by kernel_rfl) (by kernel_rfl) (fun _ _ _ h => h) hS3 (fun _ => trivial) rfl (fun w' hq => ?h14z) ?_
                case h14z => go_simp; try with_reducible rfl
                try simp only [Act.put, List.setIfInBounds_toArray, List.set_cons_zero, List.set_cons_succ, List.getElem_toArray, List.getElem_cons_succ, List.getElem_cons_zero]
                refine take_S (v := ?v15z) 15 rfl (by kernel_rfl) (by kernel_rfl) (by kernel_rfl) (by kernel_rfl) (fun _ _ _ h => h) hS3 (fun _ => trivial) rfl (fun w' hq => ?h15z) ?_
                case h15z => go_simp; try with_reducible rfl
                try simp only [Act.put, List.setIfInBounds_toArray, List.set_cons_zero, List.set_cons_succ, List.getElem_toArray, List.getElem_cons_succ, List.getElem_cons_zero]
                refine done_D (by kernel_rfl) ?_ _
                clear hS3
                go_wp2_with fail
                go_ret
                exact ⟨rfl, HO6.out.bl⟩
          · go_wp2_with fail
            refine (ch_Best_few HO1.out.c HK.out.ok (by rw [Htd.out]; omega)).mono ?_
            rintro x V1 ⟨rfl, hb⟩
            have HO2 := Lib.hid (HO1.out.below hb)
            clear hb HO1
            go_wp2_with fail
            have hb := (Below.refl V1.heap.size V1).alloc (Nat.le_refl _) (.cells #[.int .u64 0, .int .u64 0, .int .u64 0, .slice none 0 0] 35)
            have HO3 := Lib.hid (HO2.out.below hb)
            clear hb HO2
            refine wakes_true.mono ?_
            rintro x V6 ⟨rfl, hb⟩
            have HO6 := Lib.hid (HO3.out.below hb)
            clear hb HO3
            go_wp2_with fail
            go_ret
            exact ⟨rfl, HO6.out.bl⟩
end Go.Proofs.Ytgmekodfkhihiaa
