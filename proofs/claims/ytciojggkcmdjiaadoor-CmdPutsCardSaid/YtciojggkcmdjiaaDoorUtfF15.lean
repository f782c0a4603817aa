/-
  utf.first: its contract, over the table that the program lays. (Printed by wip/gen_utff15.py.)
-/
import Derived.Test.YtciojggkcmdjiaaDoorUtf15
import Derived.Test.YtciojggkcmdjiaaDoorOrd
import Derived.Deep.DeepCutAuto
import Derived.Deep.CutBlock
namespace Go.Proofs.YtciojggkcmdjiaaDoor
open Go.RowKit
set_option linter.unusedSimpArgs false
set_option linter.unusedVariables false

theorem Holds.below : ∀ {l : List (Nat × Nat × Value)} {w w' : World}, Holds l w → Below w.heap.size w w' → Holds l w'
  | [], _, _, _, _ => trivial
  | (g, i, v) :: _, w, _, h, hb => ⟨(hb.cell (p := ⟨g, i, none⟩) (lt_of_cell (show w.cell? ⟨g, i, none⟩ = some v from h.1))).trans h.1, Holds.below h.2 hb⟩
def nextC (c x : Int) : Int := bits .or .i32 (wrap32 (c * 64)) (wrap32 (bits .and .u8 x 63))
def nextOk (ok : Bool) (x : Int) : Bool := ok && (x / 64 == 2)
theorem utf_next {w : World} {gk gc : Nat} {x c : Int} {ok : Bool} (hk : Blk w gk 4 #[.bool ok]) (hc : Blk w gc 76 #[.int .i32 c]) :
    Calls Tryd.prog 89 #[.int .u8 x, .pointer (some ⟨gk, 0, none⟩), .pointer (some ⟨gc, 0, none⟩)] w fun e w' => e = .returned (.tuple #[]) ∧ w' = (w.setCell ⟨gk, 0, none⟩ (.bool (nextOk ok x))).setCell ⟨gc, 0, none⟩ (.int .i32 (nextC c x)) := by
  have hne : gk ≠ gc := hk.ne_ hc (by decide)
  obtain ⟨a0, b0, hz0⟩ := hk.c1
  obtain ⟨a1, b1, hz1⟩ := hc.c1
  clear hk hc
  go_enter Tryd.func89, Tryd.ntmps89
  cases ok with
  | false =>
    go_wp2_with fail
    exact bodyPost_end (results_none rfl _ _ _) rfl ⟨rfl, rfl⟩
  | true =>
    go_wp2_with fail
    exact bodyPost_end (results_none rfl _ _ _) rfl ⟨rfl, rfl⟩
/-- Bytes behind the first one: whether they are such, and the code point so far. -/
def nexts (l : List UInt8) (s : Bool × Int) : Bool × Int := l.foldl (fun s x => (nextOk s.1 x.toNat, nextC s.2 x.toNat)) s
theorem nexts_snoc (l : List UInt8) (x : UInt8) (s : Bool × Int) : nexts (l ++ [x]) s = (nextOk (nexts l s).1 x.toNat, nextC (nexts l s).2 x.toNat) := by
  unfold nexts
  rw [List.foldl_append]
  rfl
def startC (x0 q : Int) : Int := IntKind.i32.wrap (bits .and .u8 x0 (IntKind.u8.wrap (IntKind.u8.wrap q - 1)))
/-- The form of n bytes. -/
def formB (b : List UInt8) (x0 q hd : Int) (n : Nat) : Option (Int × Nat) :=
  if x0 / q = hd ∧ n ≤ b.length then
    let s := nexts ((b.drop 1).take (n - 1)) (true, startC x0 q)
    if (s.1 && (sizeC s.2 == n)) = true then some (s.2, n) else none
  else none
def atB (b : List UInt8) (x0 : Int) : Nat → Option (Int × Nat)
  | 0 => formB b x0 128 0 1
  | 1 => formB b x0 32 6 2
  | 2 => formB b x0 16 14 3
  | 3 => formB b x0 8 30 4
  | _ => none
/-- The code point at the beginning of bytes, and how many bytes it has. -/
def firstB (b : List UInt8) : Int × Nat :=
  match b with
  | [] => (0, 0)
  | x :: _ => match atB b x.toNat 0 with
    | some r => r
    | none => match atB b x.toNat 1 with
      | some r => r
      | none => match atB b x.toNat 2 with
        | some r => r
        | none => match atB b x.toNat 3 with
          | some r => r
          | none => (0, 0)
theorem formB_n {b : List UInt8} {x0 q hd : Int} {n : Nat} {r : Int × Nat} (h : formB b x0 q hd n = some r) : r.2 = n ∧ n ≤ b.length := by
  unfold formB at h
  split at h
  · rename_i hc
    simp only at h
    split at h
    · injection h with h
      subst h
      exact ⟨rfl, hc.2⟩
    · cases h
  · cases h
theorem atB_n {b : List UInt8} {x0 : Int} {k : Nat} {r : Int × Nat} (h : atB b x0 k = some r) : 1 ≤ r.2 ∧ r.2 ≤ 4 ∧ r.2 ≤ b.length := by
  match k, h with
  | 0, h => have := formB_n h; omega
  | 1, h => have := formB_n h; omega
  | 2, h => have := formB_n h; omega
  | 3, h => have := formB_n h; omega
  | k + 4, h => cases h
theorem firstB_n (b : List UInt8) : (firstB b).2 ≤ b.length ∧ (firstB b).2 ≤ 4 := by
  unfold firstB
  split
  · exact ⟨Nat.zero_le _, by decide⟩
  · split
    · rename_i h; have := atB_n h; omega
    · split
      · rename_i h; have := atB_n h; omega
      · split
        · rename_i h; have := atB_n h; omega
        · split
          · rename_i h; have := atB_n h; omega
          · exact ⟨Nat.zero_le _, by decide⟩
theorem firstB_at {b : List UInt8} {k : Nat} {r : Int × Nat} (h0 : 0 < b.length) (hn : ∀ j, j < k → atB b (b[0].toNat : Int) j = none) (h : atB b (b[0].toNat : Int) k = some r) : firstB b = r := by
  match b, h0 with
  | x :: t, _ =>
    simp only [List.getElem_cons_zero] at hn h
    unfold firstB
    match k, h with
    | 0, h => simp only [h]
    | 1, h => simp only [hn 0 (by omega), h]
    | 2, h => simp only [hn 0 (by omega), hn 1 (by omega), h]
    | 3, h => simp only [hn 0 (by omega), hn 1 (by omega), hn 2 (by omega), h]
    | k + 4, h => cases h
theorem firstB_no {b : List UInt8} (h0 : 0 < b.length) (hn : ∀ j, j < 4 → atB b (b[0].toNat : Int) j = none) : firstB b = (0, 0) := by
  match b, h0 with
  | x :: t, _ =>
    simp only [List.getElem_cons_zero] at hn
    unfold firstB
    simp only [hn 0 (by omega), hn 1 (by omega), hn 2 (by omega), hn 3 (by omega)]
set_option maxHeartbeats 25600000 in
set_option maxRecDepth 100000 in
theorem utf_first {w : World} {S : Nat → Prop} {v : Value} {b : List UInt8} (hF : Forms w) (h : CmdRd w S v b) : Calls Tryd.prog 81 #[v] w fun x w' => x = .returned (.tuple #[.int .i32 (firstB b).1, .int .i64 ((firstB b).2 : Nat)]) ∧ Below w.heap.size w w' := by
  obtain ⟨p, c, rfl⟩ := h.slice
  have H := Lib.hid h
  have HF := Lib.hid hF
  have k0 : w.cell? ⟨0, 0, none⟩ = _ := hF.c 0 _ rfl
  have k1 : w.cell? ⟨0, 1, none⟩ = _ := hF.c 1 _ rfl
  have k2 : w.cell? ⟨0, 2, none⟩ = _ := hF.c 2 _ rfl
  have k3 : w.cell? ⟨0, 3, none⟩ = _ := hF.c 3 _ rfl
  have k4 : w.cell? ⟨0, 4, none⟩ = _ := hF.c 4 _ rfl
  have k5 : w.cell? ⟨0, 5, none⟩ = _ := hF.c 5 _ rfl
  have k6 : w.cell? ⟨0, 6, none⟩ = _ := hF.c 6 _ rfl
  have k7 : w.cell? ⟨0, 7, none⟩ = _ := hF.c 7 _ rfl
  have k8 : w.cell? ⟨0, 8, none⟩ = _ := hF.c 8 _ rfl
  have k9 : w.cell? ⟨0, 9, none⟩ = _ := hF.c 9 _ rfl
  have k10 : w.cell? ⟨0, 10, none⟩ = _ := hF.c 10 _ rfl
  have k11 : w.cell? ⟨0, 11, none⟩ = _ := hF.c 11 _ rfl
  clear h hF
  obtain ⟨r, hr⟩ : ∃ x, firstB b = x := ⟨_, rfl⟩
  rw [hr]
  have Hr := Lib.hid hr
  clear hr
  by_cases hb0 : b.length = 0
  · have d0 : ((b.length : Int) == 0) = true := by simpa using hb0
    obtain rfl : r = (0, 0) := by rw [← Hr.out, List.eq_nil_of_length_eq_zero hb0]; rfl
    go_enter Tryd.func81, Tryd.ntmps81
    go_wp2_with fail
    go_ret2
    exact ⟨rfl, Below.refl _ w⟩
  · have d0 : ((b.length : Int) == 0) = false := by simpa using hb0
    have hlen : 0 < b.length := by omega
    obtain ⟨g, off, rfl, hlc, -, hcell⟩ := Rd.addr H.out hlen
    obtain ⟨x0, hx0⟩ : ∃ x : Int, x = (b[0].toNat : Int) := ⟨_, rfl⟩
    have e0 : w.cell? ⟨g, off, none⟩ = some (.int .u8 x0) := by
      have := hcell 0 _ (by unfold bcells; rw [List.getElem?_map, List.getElem?_eq_getElem hlen]; rfl)
      rw [hx0]
      simpa using this
    have hgz := lt_of_cell e0
    have Hx0 := Lib.hid hx0
    clear hb0 hcell hx0
    go_enter Tryd.func81, Tryd.ntmps81
    go_wp2_with fail
    go_loopw [16] (fun iv wr => ∃ k : Nat, k ≤ 4 ∧ iv = .int .i64 k ∧ Hid (Below w.heap.size w wr ∧ ∀ j, j < k → atB b x0 j = none)) (fun iv _ => 4 - (intOf iv).toNat)
    case atStart => exact ⟨0, by omega, rfl, Lib.hid ⟨Below.refl _ w, fun j hj => absurd hj (by omega)⟩⟩
    case round =>
      obtain ⟨k, hk, rfl, hR⟩ := hrel
      clear k0 k1 k2 k3 k4 k5 k6 k7 k8 k9 k10 k11
      have e1 : wr.cell? ⟨g, off, none⟩ = some (.int .u8 x0) := (hR.out.1.cell (p := ⟨g, off, none⟩) hgz).trans e0
      have hgz1 := Nat.lt_of_lt_of_le hgz hR.out.1.size
      rcases (show k = 0 ∨ k = 1 ∨ k = 2 ∨ k = 3 ∨ k = 4 by omega) with rfl | rfl | rfl | rfl | rfl
      · clear hk
        have ex := fx0
        have HK := Lib.hid (Blk.new wr 130 #[.int .i32 127, .int .u8 0, .int .u64 7])
        have HW := Lib.hid (hR.out.1.trans (((Below.refl wr.heap.size wr).alloc (Nat.le_refl _) (.cells #[.int .i32 127, .int .u8 0, .int .u64 7] 130)).mono hR.out.1.size))
        have HN := Lib.hid hR.out.2
        go_upto_region 7 with fail
        clear e1 hgz1 hR
        generalize wr.alloc (.cells #[.int .i32 127, .int .u8 0, .int .u64 7] 130) = W1 at *
        generalize wr.heap.size = gf at *
        obtain ⟨m0, m1, m2, -, -, -, hmz⟩ := HK.out.c3
        have e1 : W1.cell? ⟨g, off, none⟩ = some (.int .u8 x0) := (HW.out.cell (p := ⟨g, off, none⟩) hgz).trans e0
        have hgz1 := Nat.lt_of_lt_of_le hgz HW.out.size
        by_cases hq : x0 / 128 = 0
        · have dq : (x0 / 128 != 0) = false := by simpa using hq
          by_cases hn : b.length < 1
          · exact absurd hlen (by omega)
          · have dn : decide ((b.length : Int) < 1) = false := by simp; omega
            go_region
            clear dq dn m0 m1
            go_upto_region 8 with fail
            have hS : Holds [(g, off, .int .u8 x0), (gf, 2, .int .u64 7)] W1.drew.drew := ⟨e1, m2, trivial⟩
            have HB1 := Lib.hid HW.out.drew.drew
            have hfz : W1.drew.drew.heap.size = W1.heap.size := rfl
            have HGC := Lib.hid (show w.heap.size ≤ W1.heap.size from HW.out.size)
            clear e1 m2 hmz
            refine begin_D (T := Hold0) [] (by kernel_rfl) hS (fun _ => trivial) ?_
            generalize W1.drew.drew = V1 at *
            refine take_S (v := ?v0k0) 0 rfl (by kernel_rfl) (by kernel_rfl) (by kernel_rfl) (by kernel_rfl) (fun _ _ _ h => h) hS (fun _ => trivial) rfl (fun w' hq => ?h0k0) ?_
            case h0k0 => obtain ⟨q0, q1, -⟩ := hq; change _ = some _ at q0; change _ = some _ at q1; go_simp; try with_reducible rfl
            try simp only [Act.put, List.setIfInBounds_toArray, List.set_cons_zero, List.set_cons_succ, List.getElem_toArray, List.getElem_cons_succ, List.getElem_cons_zero]
            refine take_S (v := ?v1k0) 1 rfl (by kernel_rfl) (by kernel_rfl) (by kernel_rfl) (by kernel_rfl) (fun _ _ _ h => h) hS (fun _ => trivial) rfl (fun w' hq => ?h1k0) ?_
            case h1k0 => obtain ⟨q0, q1, -⟩ := hq; change _ = some _ at q0; change _ = some _ at q1; go_simp; try with_reducible rfl
            try simp only [Act.put, List.setIfInBounds_toArray, List.set_cons_zero, List.set_cons_succ, List.getElem_toArray, List.getElem_cons_succ, List.getElem_cons_zero]
            refine take_S (v := ?v2k0) 2 rfl (by kernel_rfl) (by kernel_rfl) (by kernel_rfl) (by kernel_rfl) (fun _ _ _ h => h) hS (fun _ => trivial) rfl (fun w' hq => ?h2k0) ?_
            case h2k0 => obtain ⟨q0, q1, -⟩ := hq; change _ = some _ at q0; change _ = some _ at q1; go_simp; try with_reducible rfl
            try simp only [Act.put, List.setIfInBounds_toArray, List.set_cons_zero, List.set_cons_succ, List.getElem_toArray, List.getElem_cons_succ, List.getElem_cons_zero]
            refine take_S (v := ?v3k0) 3 rfl (by kernel_rfl) (by kernel_rfl) (by kernel_rfl) (by kernel_rfl) (fun _ _ _ h => h) hS (fun _ => trivial) rfl (fun w' hq => ?h3k0) ?_
            case h3k0 => obtain ⟨q0, q1, -⟩ := hq; change _ = some _ at q0; change _ = some _ at q1; go_simp; try with_reducible rfl
            try simp only [Act.put, List.setIfInBounds_toArray, List.set_cons_zero, List.set_cons_succ, List.getElem_toArray, List.getElem_cons_succ, List.getElem_cons_zero]
            refine take_S (v := ?v4k0) 4 rfl (by kernel_rfl) (by kernel_rfl) (by kernel_rfl) (by kernel_rfl) (fun _ _ _ h => h) hS (fun _ => trivial) rfl (fun w' hq => ?h4k0) ?_
            case h4k0 => obtain ⟨q0, q1, -⟩ := hq; change _ = some _ at q0; change _ = some _ at q1; go_simp; try with_reducible rfl
            try simp only [Act.put, List.setIfInBounds_toArray, List.set_cons_zero, List.set_cons_succ, List.getElem_toArray, List.getElem_cons_succ, List.getElem_cons_zero]
            refine take_S (v := ?v5k0) 5 rfl (by kernel_rfl) (by kernel_rfl) (by kernel_rfl) (by kernel_rfl) (fun _ _ _ h => h) hS (fun _ => trivial) rfl (fun w' hq => ?h5k0) ?_
            case h5k0 => obtain ⟨q0, q1, -⟩ := hq; change _ = some _ at q0; change _ = some _ at q1; go_simp; try with_reducible rfl
            try simp only [Act.put, List.setIfInBounds_toArray, List.set_cons_zero, List.set_cons_succ, List.getElem_toArray, List.getElem_cons_succ, List.getElem_cons_zero]
            refine take_S (v := ?v6k0) 6 rfl (by kernel_rfl) (by kernel_rfl) (by kernel_rfl) (by kernel_rfl) (fun _ _ _ h => h) hS (fun _ => trivial) rfl (fun w' hq => ?h6k0) ?_
            case h6k0 => obtain ⟨q0, q1, -⟩ := hq; change _ = some _ at q0; change _ = some _ at q1; go_simp; try with_reducible rfl
            try simp only [Act.put, List.setIfInBounds_toArray, List.set_cons_zero, List.set_cons_succ, List.getElem_toArray, List.getElem_cons_succ, List.getElem_cons_zero]
            refine take_S (v := ?v7k0) 7 rfl (by kernel_rfl) (by kernel_rfl) (by kernel_rfl) (by kernel_rfl) (fun _ _ _ h => h) hS (fun _ => trivial) rfl (fun w' hq => ?h7k0) ?_
            case h7k0 => obtain ⟨q0, q1, -⟩ := hq; change _ = some _ at q0; change _ = some _ at q1; go_simp; try with_reducible rfl
            try simp only [Act.put, List.setIfInBounds_toArray, List.set_cons_zero, List.set_cons_succ, List.getElem_toArray, List.getElem_cons_succ, List.getElem_cons_zero]
            refine take_S (v := ?v8k0) 8 rfl (by kernel_rfl) (by kernel_rfl) (by kernel_rfl) (by kernel_rfl) (fun _ _ _ h => h) hS (fun _ => trivial) rfl (fun w' hq => ?h8k0) ?_
            case h8k0 => obtain ⟨q0, q1, -⟩ := hq; change _ = some _ at q0; change _ = some _ at q1; go_simp; try with_reducible rfl
            try simp only [Act.put, List.setIfInBounds_toArray, List.set_cons_zero, List.set_cons_succ, List.getElem_toArray, List.getElem_cons_succ, List.getElem_cons_zero]
            refine one_D 9 rfl (by kernel_rfl) (fun KQ hK => ?_)
            go_simp
            have hbc := (Below.refl V1.heap.size V1).alloc (Nat.le_refl _) (.cells #[.int .i32 0] 76)
            have kC := Blk.new V1 76 #[.int .i32 0]
            have hS2 : Holds [(g, off, .int .u8 x0), (gf, 2, .int .u64 7)] (V1.alloc (.cells #[.int .i32 0] 76)) := Holds.below hS hbc
            refine hK.out _ _ hS2 (fun _ => trivial) ?_
            clear hK
            obtain ⟨n0, n1, n2⟩ := kC.c1
            refine one_D 10 rfl (by kernel_rfl) (fun KQ hK => ?_)
            go_simp
            have hbc2 := (Below.refl V1.heap.size V1).alloc (Nat.le_refl _) (.cells #[.int .i32 (startC x0 128)] 76)
            have HC := Lib.hid (Blk.new V1 76 #[.int .i32 (startC x0 128)])
            have HB2 := Lib.hid (HB1.out.trans (hbc2.mono HB1.out.size))
            have Hfz := Lib.hid hfz
            refine hK.out _ _ (Holds.below hS hbc2) (fun _ => trivial) ?_
            clear hK hS hS2 hbc kC hbc2 HB1 n0 n1 n2 hfz
            refine done_D (by kernel_rfl) ?_ _
            change Exit.then _ _ _ _ (V1.alloc (.cells #[.int .i32 (startC x0 128)] 76))
            rw [show W1.heap.size = V1.heap.size from Hfz.out.symm]
            have hz2 : (V1.alloc (.cells #[.int .i32 (startC x0 128)] 76)).heap.size = V1.heap.size + 1 := World.size_alloc _ _
            have Hz2 := Lib.hid hz2
            clear hz2
            generalize V1.alloc (.cells #[.int .i32 (startC x0 128)] 76) = V2 at *
            generalize V1.heap.size = gc at *
            obtain hc1 | hc1 : ((c = 1) = True) ∨ ((c = 1) = False) := (Decidable.em (c = 1)).elim (fun h => .inl (eq_true h)) (fun h => .inr (eq_false h))
            all_goals
              obtain ⟨rest, hrest⟩ : ∃ x, (b.drop 1).take (1 - 1) = x := ⟨_, rfl⟩
              have hrl : rest.length = 0 := by rw [← hrest, List.length_take, List.length_drop]; omega
              have Hrl := Lib.hid hrl
              have Hrest := Lib.hid hrest
              have Hgc := Lib.hid (show w.heap.size ≤ gc ∧ gc + 1 = V2.heap.size from ⟨by have := HGC.out; have := Hfz.out; omega, Hz2.out.symm⟩)
              clear hrest hrl hgz1
              go_wp2_with fail
              have hbk := (Below.refl V2.heap.size V2).alloc (Nat.le_refl _) (.cells #[.bool true] 4)
              have HC3 := Lib.hid (HC.out.below hbk)
              have HK3 := Lib.hid (Blk.new V2 4 #[.bool true])
              have HB3 := Lib.hid (HB2.out.trans (hbk.mono HB2.out.size))
              clear hbk HC HB2 HW HK
              generalize V2.alloc (.cells #[.bool true] 4) = V3 at *
              generalize V2.heap.size = gk at *
              go_loopw [54] (fun iv wy => ∃ j : Nat, j ≤ 0 ∧ iv = .int .i64 j ∧ Hid (Blk wy gc 76 #[.int .i32 (nexts (rest.take j) (true, startC x0 128)).2] ∧ Blk wy gk 4 #[.bool (nexts (rest.take j) (true, startC x0 128)).1] ∧ Below w.heap.size w wy)) (fun iv _ => 0 - (intOf iv).toNat)
              case atStart => exact ⟨0, Nat.zero_le _, rfl, Lib.hid ⟨HC3.out, HK3.out, HB3.out⟩⟩
              case round =>
                obtain ⟨j, hj, rfl, hY⟩ := hrel
                clear HC3 HK3 HB3
                by_cases hlt : j < 0
                · exact absurd hlt (by omega)
                · obtain rfl : j = 0 := by omega
                  obtain ⟨s, hs⟩ : ∃ s, nexts rest (true, startC x0 128) = s := ⟨_, rfl⟩
                  have HY := Lib.hid (show Blk wr gc 76 #[.int .i32 s.2] ∧ Blk wr gk 4 #[.bool s.1] ∧ Below w.heap.size w wr from by
                    have := hY.out
                    rw [List.take_of_length_le (by rw [Hrl.out]; exact Nat.le_refl _), hs] at this
                    exact this)
                  have Hat := Lib.hid (show atB b x0 0 = if (s.1 && (sizeC s.2 == 1)) = true then some (s.2, 1) else none from by
                    show formB b x0 128 0 1 = _
                    unfold formB
                    rw [if_pos ⟨hq, by omega⟩]
                    simp only [Hrest.out, hs])
                  obtain ⟨s1, s2⟩ := s
                  clear hY hs hlt hj
                  obtain ⟨c0, -, -⟩ := HY.out.1.c1
                  obtain ⟨d0', -, -⟩ := HY.out.2.1.c1
                  simp only at c0 d0'
                  clear hq hn
                  cases s1 with
                  | false =>
                    have HN2 := Lib.hid (show ∀ i, i < 0 + 1 → atB b x0 i = none from fun i hi => (Nat.lt_succ_iff_lt_or_eq.1 hi).elim (HN.out i) (fun e => by rw [e, Hat.out]; rfl))
                    have HB4 := Lib.hid HY.out.2.2
                    clear Hat HN
                    go_wp2_with fail
                    go_roundw
                    case rel => exact ⟨0 + 1, by omega, by go_num, Lib.hid ⟨HB4.out, HN2.out⟩⟩
                    case measure => simp [intOf]
                  | true =>
                    go_wp2_with fail
                    refine (utf_Size (HF.out.below HY.out.2.2)).mono ?_
                    rintro _ w5 ⟨rfl, hb5⟩
                    have c0 := (HY.out.1.below hb5).cell 0
                    have d0' := (HY.out.2.1.below hb5).cell 0
                    simp only [List.getElem?_toArray, List.getElem?_cons_zero] at c0 d0'
                    have HB4 := Lib.hid (HY.out.2.2.trans (hb5.mono HY.out.2.2.size))
                    clear hb5 HY
                    by_cases hz : sizeC s2 = 1
                    · have dz : ((sizeC s2 : Int) == 1) = true := by rw [hz]; rfl
                      obtain rfl : r = (s2, 1) := by
                        rw [← Hr.out]
                        exact firstB_at (k := 0) hlen (by rw [← Hx0.out]; exact HN.out) (by rw [← Hx0.out, Hat.out, hz]; rfl)
                      clear hz Hat HN
                      go_wp2_with fail
                      go_ret2
                      exact ⟨rfl, HB4.out⟩
                    · have dz : ((sizeC s2 : Int) == 1) = false := by simp; omega
                      have HN2 := Lib.hid (show ∀ i, i < 0 + 1 → atB b x0 i = none from fun i hi => (Nat.lt_succ_iff_lt_or_eq.1 hi).elim (HN.out i) (fun e => by rw [e, Hat.out, if_neg (by simpa using hz)]))
                      clear hz Hat HN
                      go_wp2_with fail
                      go_roundw
                      case rel => exact ⟨0 + 1, by omega, by go_num, Lib.hid ⟨HB4.out, HN2.out⟩⟩
                      case measure => simp [intOf]
        · have dq : (x0 / 128 != 0) = true := by simpa using hq
          have HN2 := Lib.hid (show ∀ j, j < 0 + 1 → atB b x0 j = none from fun j hj => (Nat.lt_succ_iff_lt_or_eq.1 hj).elim (HN.out j) (fun e => by rw [e]; exact if_neg (fun hh => hq hh.1)))
          have HB2 := Lib.hid HW.out.drew
          go_region
          go_wp2_with fail
          go_roundw
          case rel => exact ⟨0 + 1, by omega, by go_num, Lib.hid ⟨HB2.out, HN2.out⟩⟩
          case measure => simp [intOf]
      · clear hk
        have ex := fx1
        have HK := Lib.hid (Blk.new wr 130 #[.int .i32 2047, .int .u8 192, .int .u64 5])
        have HW := Lib.hid (hR.out.1.trans (((Below.refl wr.heap.size wr).alloc (Nat.le_refl _) (.cells #[.int .i32 2047, .int .u8 192, .int .u64 5] 130)).mono hR.out.1.size))
        have HN := Lib.hid hR.out.2
        go_upto_region 7 with fail
        clear e1 hgz1 hR
        generalize wr.alloc (.cells #[.int .i32 2047, .int .u8 192, .int .u64 5] 130) = W1 at *
        generalize wr.heap.size = gf at *
        obtain ⟨m0, m1, m2, -, -, -, hmz⟩ := HK.out.c3
        have e1 : W1.cell? ⟨g, off, none⟩ = some (.int .u8 x0) := (HW.out.cell (p := ⟨g, off, none⟩) hgz).trans e0
        have hgz1 := Nat.lt_of_lt_of_le hgz HW.out.size
        by_cases hq : x0 / 32 = 6
        · have dq : (x0 / 32 != 6) = false := by simpa using hq
          by_cases hn : b.length < 2
          · have dn : decide ((b.length : Int) < 2) = true := by simp; omega
            have HN2 := Lib.hid (show ∀ j, j < 1 + 1 → atB b x0 j = none from fun j hj => (Nat.lt_succ_iff_lt_or_eq.1 hj).elim (HN.out j) (fun e => by rw [e]; exact if_neg (fun hh => by have := hh.2; omega)))
            have HB2 := Lib.hid HW.out.drew
            go_region
            go_wp2_with fail
            go_roundw
            case rel => exact ⟨1 + 1, by omega, by go_num, Lib.hid ⟨HB2.out, HN2.out⟩⟩
            case measure => simp [intOf]
          · have dn : decide ((b.length : Int) < 2) = false := by simp; omega
            go_region
            clear dq dn m0 m1
            go_upto_region 8 with fail
            have hS : Holds [(g, off, .int .u8 x0), (gf, 2, .int .u64 5)] W1.drew.drew := ⟨e1, m2, trivial⟩
            have HB1 := Lib.hid HW.out.drew.drew
            have hfz : W1.drew.drew.heap.size = W1.heap.size := rfl
            have HGC := Lib.hid (show w.heap.size ≤ W1.heap.size from HW.out.size)
            clear e1 m2 hmz
            refine begin_D (T := Hold0) [] (by kernel_rfl) hS (fun _ => trivial) ?_
            generalize W1.drew.drew = V1 at *
            refine take_S (v := ?v0k1) 0 rfl (by kernel_rfl) (by kernel_rfl) (by kernel_rfl) (by kernel_rfl) (fun _ _ _ h => h) hS (fun _ => trivial) rfl (fun w' hq => ?h0k1) ?_
            case h0k1 => obtain ⟨q0, q1, -⟩ := hq; change _ = some _ at q0; change _ = some _ at q1; go_simp; try with_reducible rfl
            try simp only [Act.put, List.setIfInBounds_toArray, List.set_cons_zero, List.set_cons_succ, List.getElem_toArray, List.getElem_cons_succ, List.getElem_cons_zero]
            refine take_S (v := ?v1k1) 1 rfl (by kernel_rfl) (by kernel_rfl) (by kernel_rfl) (by kernel_rfl) (fun _ _ _ h => h) hS (fun _ => trivial) rfl (fun w' hq => ?h1k1) ?_
            case h1k1 => obtain ⟨q0, q1, -⟩ := hq; change _ = some _ at q0; change _ = some _ at q1; go_simp; try with_reducible rfl
            try simp only [Act.put, List.setIfInBounds_toArray, List.set_cons_zero, List.set_cons_succ, List.getElem_toArray, List.getElem_cons_succ, List.getElem_cons_zero]
            refine take_S (v := ?v2k1) 2 rfl (by kernel_rfl) (by kernel_rfl) (by kernel_rfl) (by kernel_rfl) (fun _ _ _ h => h) hS (fun _ => trivial) rfl (fun w' hq => ?h2k1) ?_
            case h2k1 => obtain ⟨q0, q1, -⟩ := hq; change _ = some _ at q0; change _ = some _ at q1; go_simp; try with_reducible rfl
            try simp only [Act.put, List.setIfInBounds_toArray, List.set_cons_zero, List.set_cons_succ, List.getElem_toArray, List.getElem_cons_succ, List.getElem_cons_zero]
            refine take_S (v := ?v3k1) 3 rfl (by kernel_rfl) (by kernel_rfl) (by kernel_rfl) (by kernel_rfl) (fun _ _ _ h => h) hS (fun _ => trivial) rfl (fun w' hq => ?h3k1) ?_
            case h3k1 => obtain ⟨q0, q1, -⟩ := hq; change _ = some _ at q0; change _ = some _ at q1; go_simp; try with_reducible rfl
            try simp only [Act.put, List.setIfInBounds_toArray, List.set_cons_zero, List.set_cons_succ, List.getElem_toArray, List.getElem_cons_succ, List.getElem_cons_zero]
            refine take_S (v := ?v4k1) 4 rfl (by kernel_rfl) (by kernel_rfl) (by kernel_rfl) (by kernel_rfl) (fun _ _ _ h => h) hS (fun _ => trivial) rfl (fun w' hq => ?h4k1) ?_
            case h4k1 => obtain ⟨q0, q1, -⟩ := hq; change _ = some _ at q0; change _ = some _ at q1; go_simp; try with_reducible rfl
            try simp only [Act.put, List.setIfInBounds_toArray, List.set_cons_zero, List.set_cons_succ, List.getElem_toArray, List.getElem_cons_succ, List.getElem_cons_zero]
            refine take_S (v := ?v5k1) 5 rfl (by kernel_rfl) (by kernel_rfl) (by kernel_rfl) (by kernel_rfl) (fun _ _ _ h => h) hS (fun _ => trivial) rfl (fun w' hq => ?h5k1) ?_
            case h5k1 => obtain ⟨q0, q1, -⟩ := hq; change _ = some _ at q0; change _ = some _ at q1; go_simp; try with_reducible rfl
            try simp only [Act.put, List.setIfInBounds_toArray, List.set_cons_zero, List.set_cons_succ, List.getElem_toArray, List.getElem_cons_succ, List.getElem_cons_zero]
            refine take_S (v := ?v6k1) 6 rfl (by kernel_rfl) (by kernel_rfl) (by kernel_rfl) (by kernel_rfl) (fun _ _ _ h => h) hS (fun _ => trivial) rfl (fun w' hq => ?h6k1) ?_
            case h6k1 => obtain ⟨q0, q1, -⟩ := hq; change _ = some _ at q0; change _ = some _ at q1; go_simp; try with_reducible rfl
            try simp only [Act.put, List.setIfInBounds_toArray, List.set_cons_zero, List.set_cons_succ, List.getElem_toArray, List.getElem_cons_succ, List.getElem_cons_zero]
            refine take_S (v := ?v7k1) 7 rfl (by kernel_rfl) (by kernel_rfl) (by kernel_rfl) (by kernel_rfl) (fun _ _ _ h => h) hS (fun _ => trivial) rfl (fun w' hq => ?h7k1) ?_
            case h7k1 => obtain ⟨q0, q1, -⟩ := hq; change _ = some _ at q0; change _ = some _ at q1; go_simp; try with_reducible rfl
            try simp only [Act.put, List.setIfInBounds_toArray, List.set_cons_zero, List.set_cons_succ, List.getElem_toArray, List.getElem_cons_succ, List.getElem_cons_zero]
            refine take_S (v := ?v8k1) 8 rfl (by kernel_rfl) (by kernel_rfl) (by kernel_rfl) (by kernel_rfl) (fun _ _ _ h => h) hS (fun _ => trivial) rfl (fun w' hq => ?h8k1) ?_
            case h8k1 => obtain ⟨q0, q1, -⟩ := hq; change _ = some _ at q0; change _ = some _ at q1; go_simp; try with_reducible rfl
            try simp only [Act.put, List.setIfInBounds_toArray, List.set_cons_zero, List.set_cons_succ, List.getElem_toArray, List.getElem_cons_succ, List.getElem_cons_zero]
            refine one_D 9 rfl (by kernel_rfl) (fun KQ hK => ?_)
            go_simp
            have hbc := (Below.refl V1.heap.size V1).alloc (Nat.le_refl _) (.cells #[.int .i32 0] 76)
            have kC := Blk.new V1 76 #[.int .i32 0]
            have hS2 : Holds [(g, off, .int .u8 x0), (gf, 2, .int .u64 5)] (V1.alloc (.cells #[.int .i32 0] 76)) := Holds.below hS hbc
            refine hK.out _ _ hS2 (fun _ => trivial) ?_
            clear hK
            obtain ⟨n0, n1, n2⟩ := kC.c1
            refine one_D 10 rfl (by kernel_rfl) (fun KQ hK => ?_)
            go_simp
            have hbc2 := (Below.refl V1.heap.size V1).alloc (Nat.le_refl _) (.cells #[.int .i32 (startC x0 32)] 76)
            have HC := Lib.hid (Blk.new V1 76 #[.int .i32 (startC x0 32)])
            have HB2 := Lib.hid (HB1.out.trans (hbc2.mono HB1.out.size))
            have Hfz := Lib.hid hfz
            refine hK.out _ _ (Holds.below hS hbc2) (fun _ => trivial) ?_
            clear hK hS hS2 hbc kC hbc2 HB1 n0 n1 n2 hfz
            refine done_D (by kernel_rfl) ?_ _
            change Exit.then _ _ _ _ (V1.alloc (.cells #[.int .i32 (startC x0 32)] 76))
            rw [show W1.heap.size = V1.heap.size from Hfz.out.symm]
            have hz2 : (V1.alloc (.cells #[.int .i32 (startC x0 32)] 76)).heap.size = V1.heap.size + 1 := World.size_alloc _ _
            have Hz2 := Lib.hid hz2
            clear hz2
            generalize V1.alloc (.cells #[.int .i32 (startC x0 32)] 76) = V2 at *
            generalize V1.heap.size = gc at *
            obtain ⟨rest, hrest⟩ : ∃ x, (b.drop 1).take (2 - 1) = x := ⟨_, rfl⟩
            have hrl : rest.length = 1 := by rw [← hrest, List.length_take, List.length_drop]; omega
            have Hrl := Lib.hid hrl
            have Hrest := Lib.hid hrest
            have Hgc := Lib.hid (show w.heap.size ≤ gc ∧ gc + 1 = V2.heap.size from ⟨by have := HGC.out; have := Hfz.out; omega, Hz2.out.symm⟩)
            clear hrest hrl hgz1
            go_wp2_with fail
            have hbk := (Below.refl V2.heap.size V2).alloc (Nat.le_refl _) (.cells #[.bool true] 4)
            have HC3 := Lib.hid (HC.out.below hbk)
            have HK3 := Lib.hid (Blk.new V2 4 #[.bool true])
            have HB3 := Lib.hid (HB2.out.trans (hbk.mono HB2.out.size))
            clear hbk HC HB2 HW HK
            generalize V2.alloc (.cells #[.bool true] 4) = V3 at *
            generalize V2.heap.size = gk at *
            go_loopw [54] (fun iv wy => ∃ j : Nat, j ≤ 1 ∧ iv = .int .i64 j ∧ Hid (Blk wy gc 76 #[.int .i32 (nexts (rest.take j) (true, startC x0 32)).2] ∧ Blk wy gk 4 #[.bool (nexts (rest.take j) (true, startC x0 32)).1] ∧ Below w.heap.size w wy)) (fun iv _ => 1 - (intOf iv).toNat)
            case atStart => exact ⟨0, Nat.zero_le _, rfl, Lib.hid ⟨HC3.out, HK3.out, HB3.out⟩⟩
            case round =>
              obtain ⟨j, hj, rfl, hY⟩ := hrel
              clear HC3 HK3 HB3
              by_cases hlt : j < 1
              · have hjr : j < rest.length := by rw [Hrl.out]; exact hlt
                obtain ⟨xj, hxj⟩ : ∃ x : Int, x = (rest[j].toNat : Int) := ⟨_, rfl⟩
                have ej : wr.cell? ⟨g, off + 1 + j, none⟩ = some (.int .u8 xj) := by
                  obtain ⟨g', off', he, -, -, hcell⟩ := Rd.addr (H.out.below hY.out.2.2) hlen
                  injection he with he
                  injection he with h1 h2 _
                  subst h1; subst h2
                  have hbj : 1 + j < b.length := by omega
                  have hrj : rest[j] = b[1 + j] := by simp only [← Hrest.out, List.getElem_take, List.getElem_drop]
                  have := hcell (1 + j) (.int .u8 (b[1 + j].toNat)) (by unfold bcells; rw [List.getElem?_map, List.getElem?_eq_getElem hbj]; rfl)
                  rw [hxj, hrj, Nat.add_assoc]
                  exact this
                have Hst := Lib.hid (show nexts (rest.take (j + 1)) (true, startC x0 32) = (nextOk (nexts (rest.take j) (true, startC x0 32)).1 xj, nextC (nexts (rest.take j) (true, startC x0 32)).2 xj) from by
                  rw [List.take_succ_eq_append_getElem hjr, nexts_snoc, hxj])
                clear hxj hjr
                obtain ⟨s, hs⟩ : ∃ s, nexts (rest.take j) (true, startC x0 32) = s := ⟨_, rfl⟩
                have HY := Lib.hid (show Blk wr gc 76 #[.int .i32 s.2] ∧ Blk wr gk 4 #[.bool s.1] ∧ Below w.heap.size w wr from by rw [← hs]; exact hY.out)
                have HS := Lib.hid hs
                clear hY hs
                go_wp2_with fail
                refine (utf_next HY.out.2.1 HY.out.1).mono ?_
                rintro _ _ ⟨rfl, rfl⟩
                have hne : gk ≠ gc := by have := Hgc.out; omega
                have HY2 := Lib.hid (show Blk ((wr.setCell ⟨gk, 0, none⟩ (.bool (nextOk s.1 xj))).setCell ⟨gc, 0, none⟩ (.int .i32 (nextC s.2 xj))) gc 76 #[.int .i32 (nextC s.2 xj)] ∧ Blk ((wr.setCell ⟨gk, 0, none⟩ (.bool (nextOk s.1 xj))).setCell ⟨gc, 0, none⟩ (.int .i32 (nextC s.2 xj))) gk 4 #[.bool (nextOk s.1 xj)] ∧ Below w.heap.size w ((wr.setCell ⟨gk, 0, none⟩ (.bool (nextOk s.1 xj))).setCell ⟨gc, 0, none⟩ (.int .i32 (nextC s.2 xj))) from
                  ⟨by simpa using (HY.out.1.far (p := ⟨gk, 0, none⟩) hne.symm (.bool (nextOk s.1 xj))).set_ 0 (.int .i32 (nextC s.2 xj)), by simpa using (HY.out.2.1.set_ 0 (.bool (nextOk s.1 xj))).far (p := ⟨gc, 0, none⟩) hne (.int .i32 (nextC s.2 xj)), (HY.out.2.2.setCell (p := ⟨gk, 0, none⟩) (show w.heap.size ≤ gk by have := Hgc.out; omega) _).setCell (p := ⟨gc, 0, none⟩) Hgc.out.1 _⟩)
                clear ej hne HY
                go_wp2_with fail
                go_roundw
                case rel => exact ⟨j + 1, by omega, by go_num, by rw [Hst.out, HS.out]; exact HY2⟩
                case measure => simp [intOf]; omega
              · obtain rfl : j = 1 := by omega
                obtain ⟨s, hs⟩ : ∃ s, nexts rest (true, startC x0 32) = s := ⟨_, rfl⟩
                have HY := Lib.hid (show Blk wr gc 76 #[.int .i32 s.2] ∧ Blk wr gk 4 #[.bool s.1] ∧ Below w.heap.size w wr from by
                  have := hY.out
                  rw [List.take_of_length_le (by rw [Hrl.out]; exact Nat.le_refl _), hs] at this
                  exact this)
                have Hat := Lib.hid (show atB b x0 1 = if (s.1 && (sizeC s.2 == 2)) = true then some (s.2, 2) else none from by
                  show formB b x0 32 6 2 = _
                  unfold formB
                  rw [if_pos ⟨hq, by omega⟩]
                  simp only [Hrest.out, hs])
                obtain ⟨s1, s2⟩ := s
                clear hY hs hlt hj
                obtain ⟨c0, -, -⟩ := HY.out.1.c1
                obtain ⟨d0', -, -⟩ := HY.out.2.1.c1
                simp only at c0 d0'
                clear hq hn
                cases s1 with
                | false =>
                  have HN2 := Lib.hid (show ∀ i, i < 1 + 1 → atB b x0 i = none from fun i hi => (Nat.lt_succ_iff_lt_or_eq.1 hi).elim (HN.out i) (fun e => by rw [e, Hat.out]; rfl))
                  have HB4 := Lib.hid HY.out.2.2
                  clear Hat HN
                  go_wp2_with fail
                  go_roundw
                  case rel => exact ⟨1 + 1, by omega, by go_num, Lib.hid ⟨HB4.out, HN2.out⟩⟩
                  case measure => simp [intOf]
                | true =>
                  go_wp2_with fail
                  refine (utf_Size (HF.out.below HY.out.2.2)).mono ?_
                  rintro _ w5 ⟨rfl, hb5⟩
                  have c0 := (HY.out.1.below hb5).cell 0
                  have d0' := (HY.out.2.1.below hb5).cell 0
                  simp only [List.getElem?_toArray, List.getElem?_cons_zero] at c0 d0'
                  have HB4 := Lib.hid (HY.out.2.2.trans (hb5.mono HY.out.2.2.size))
                  clear hb5 HY
                  by_cases hz : sizeC s2 = 2
                  · have dz : ((sizeC s2 : Int) == 2) = true := by rw [hz]; rfl
                    obtain rfl : r = (s2, 2) := by
                      rw [← Hr.out]
                      exact firstB_at (k := 1) hlen (by rw [← Hx0.out]; exact HN.out) (by rw [← Hx0.out, Hat.out, hz]; rfl)
                    clear hz Hat HN
                    go_wp2_with fail
                    go_ret2
                    exact ⟨rfl, HB4.out⟩
                  · have dz : ((sizeC s2 : Int) == 2) = false := by simp; omega
                    have HN2 := Lib.hid (show ∀ i, i < 1 + 1 → atB b x0 i = none from fun i hi => (Nat.lt_succ_iff_lt_or_eq.1 hi).elim (HN.out i) (fun e => by rw [e, Hat.out, if_neg (by simpa using hz)]))
                    clear hz Hat HN
                    go_wp2_with fail
                    go_roundw
                    case rel => exact ⟨1 + 1, by omega, by go_num, Lib.hid ⟨HB4.out, HN2.out⟩⟩
                    case measure => simp [intOf]
        · have dq : (x0 / 32 != 6) = true := by simpa using hq
          have HN2 := Lib.hid (show ∀ j, j < 1 + 1 → atB b x0 j = none from fun j hj => (Nat.lt_succ_iff_lt_or_eq.1 hj).elim (HN.out j) (fun e => by rw [e]; exact if_neg (fun hh => hq hh.1)))
          have HB2 := Lib.hid HW.out.drew
          go_region
          go_wp2_with fail
          go_roundw
          case rel => exact ⟨1 + 1, by omega, by go_num, Lib.hid ⟨HB2.out, HN2.out⟩⟩
          case measure => simp [intOf]
      · clear hk
        have ex := fx2
        have HK := Lib.hid (Blk.new wr 130 #[.int .i32 65535, .int .u8 224, .int .u64 4])
        have HW := Lib.hid (hR.out.1.trans (((Below.refl wr.heap.size wr).alloc (Nat.le_refl _) (.cells #[.int .i32 65535, .int .u8 224, .int .u64 4] 130)).mono hR.out.1.size))
        have HN := Lib.hid hR.out.2
        go_upto_region 7 with fail
        clear e1 hgz1 hR
        generalize wr.alloc (.cells #[.int .i32 65535, .int .u8 224, .int .u64 4] 130) = W1 at *
        generalize wr.heap.size = gf at *
        obtain ⟨m0, m1, m2, -, -, -, hmz⟩ := HK.out.c3
        have e1 : W1.cell? ⟨g, off, none⟩ = some (.int .u8 x0) := (HW.out.cell (p := ⟨g, off, none⟩) hgz).trans e0
        have hgz1 := Nat.lt_of_lt_of_le hgz HW.out.size
        by_cases hq : x0 / 16 = 14
        · have dq : (x0 / 16 != 14) = false := by simpa using hq
          by_cases hn : b.length < 3
          · have dn : decide ((b.length : Int) < 3) = true := by simp; omega
            have HN2 := Lib.hid (show ∀ j, j < 2 + 1 → atB b x0 j = none from fun j hj => (Nat.lt_succ_iff_lt_or_eq.1 hj).elim (HN.out j) (fun e => by rw [e]; exact if_neg (fun hh => by have := hh.2; omega)))
            have HB2 := Lib.hid HW.out.drew
            go_region
            go_wp2_with fail
            go_roundw
            case rel => exact ⟨2 + 1, by omega, by go_num, Lib.hid ⟨HB2.out, HN2.out⟩⟩
            case measure => simp [intOf]
          · have dn : decide ((b.length : Int) < 3) = false := by simp; omega
            go_region
            clear dq dn m0 m1
            go_upto_region 8 with fail
            have hS : Holds [(g, off, .int .u8 x0), (gf, 2, .int .u64 4)] W1.drew.drew := ⟨e1, m2, trivial⟩
            have HB1 := Lib.hid HW.out.drew.drew
            have hfz : W1.drew.drew.heap.size = W1.heap.size := rfl
            have HGC := Lib.hid (show w.heap.size ≤ W1.heap.size from HW.out.size)
            clear e1 m2 hmz
            refine begin_D (T := Hold0) [] (by kernel_rfl) hS (fun _ => trivial) ?_
            generalize W1.drew.drew = V1 at *
            refine take_S (v := ?v0k2) 0 rfl (by kernel_rfl) (by kernel_rfl) (by kernel_rfl) (by kernel_rfl) (fun _ _ _ h => h) hS (fun _ => trivial) rfl (fun w' hq => ?h0k2) ?_
            case h0k2 => obtain ⟨q0, q1, -⟩ := hq; change _ = some _ at q0; change _ = some _ at q1; go_simp; try with_reducible rfl
            try simp only [Act.put, List.setIfInBounds_toArray, List.set_cons_zero, List.set_cons_succ, List.getElem_toArray, List.getElem_cons_succ, List.getElem_cons_zero]
            refine take_S (v := ?v1k2) 1 rfl (by kernel_rfl) (by kernel_rfl) (by kernel_rfl) (by kernel_rfl) (fun _ _ _ h => h) hS (fun _ => trivial) rfl (fun w' hq => ?h1k2) ?_
            case h1k2 => obtain ⟨q0, q1, -⟩ := hq; change _ = some _ at q0; change _ = some _ at q1; go_simp; try with_reducible rfl
            try simp only [Act.put, List.setIfInBounds_toArray, List.set_cons_zero, List.set_cons_succ, List.getElem_toArray, List.getElem_cons_succ, List.getElem_cons_zero]
            refine take_S (v := ?v2k2) 2 rfl (by kernel_rfl) (by kernel_rfl) (by kernel_rfl) (by kernel_rfl) (fun _ _ _ h => h) hS (fun _ => trivial) rfl (fun w' hq => ?h2k2) ?_
            case h2k2 => obtain ⟨q0, q1, -⟩ := hq; change _ = some _ at q0; change _ = some _ at q1; go_simp; try with_reducible rfl
            try simp only [Act.put, List.setIfInBounds_toArray, List.set_cons_zero, List.set_cons_succ, List.getElem_toArray, List.getElem_cons_succ, List.getElem_cons_zero]
            refine take_S (v := ?v3k2) 3 rfl (by kernel_rfl) (by kernel_rfl) (by kernel_rfl) (by kernel_rfl) (fun _ _ _ h => h) hS (fun _ => trivial) rfl (fun w' hq => ?h3k2) ?_
            case h3k2 => obtain ⟨q0, q1, -⟩ := hq; change _ = some _ at q0; change _ = some _ at q1; go_simp; try with_reducible rfl
            try simp only [Act.put, List.setIfInBounds_toArray, List.set_cons_zero, List.set_cons_succ, List.getElem_toArray, List.getElem_cons_succ, List.getElem_cons_zero]
            refine take_S (v := ?v4k2) 4 rfl (by kernel_rfl) (by kernel_rfl) (by kernel_rfl) (by kernel_rfl) (fun _ _ _ h => h) hS (fun _ => trivial) rfl (fun w' hq => ?h4k2) ?_
            case h4k2 => obtain ⟨q0, q1, -⟩ := hq; change _ = some _ at q0; change _ = some _ at q1; go_simp; try with_reducible rfl
            try simp only [Act.put, List.setIfInBounds_toArray, List.set_cons_zero, List.set_cons_succ, List.getElem_toArray, List.getElem_cons_succ, List.getElem_cons_zero]
            refine take_S (v := ?v5k2) 5 rfl (by kernel_rfl) (by kernel_rfl) (by kernel_rfl) (by kernel_rfl) (fun _ _ _ h => h) hS (fun _ => trivial) rfl (fun w' hq => ?h5k2) ?_
            case h5k2 => obtain ⟨q0, q1, -⟩ := hq; change _ = some _ at q0; change _ = some _ at q1; go_simp; try with_reducible rfl
            try simp only [Act.put, List.setIfInBounds_toArray, List.set_cons_zero, List.set_cons_succ, List.getElem_toArray, List.getElem_cons_succ, List.getElem_cons_zero]
            refine take_S (v := ?v6k2) 6 rfl (by kernel_rfl) (by kernel_rfl) (by kernel_rfl) (by kernel_rfl) (fun _ _ _ h => h) hS (fun _ => trivial) rfl (fun w' hq => ?h6k2) ?_
            case h6k2 => obtain ⟨q0, q1, -⟩ := hq; change _ = some _ at q0; change _ = some _ at q1; go_simp; try with_reducible rfl
            try simp only [Act.put, List.setIfInBounds_toArray, List.set_cons_zero, List.set_cons_succ, List.getElem_toArray, List.getElem_cons_succ, List.getElem_cons_zero]
            refine take_S (v := ?v7k2) 7 rfl (by kernel_rfl) (by kernel_rfl) (by kernel_rfl) (by kernel_rfl) (fun _ _ _ h => h) hS (fun _ => trivial) rfl (fun w' hq => ?h7k2) ?_
            case h7k2 => obtain ⟨q0, q1, -⟩ := hq; change _ = some _ at q0; change _ = some _ at q1; go_simp; try with_reducible rfl
            try simp only [Act.put, List.setIfInBounds_toArray, List.set_cons_zero, List.set_cons_succ, List.getElem_toArray, List.getElem_cons_succ, List.getElem_cons_zero]
            refine take_S (v := ?v8k2) 8 rfl (by kernel_rfl) (by kernel_rfl) (by kernel_rfl) (by kernel_rfl) (fun _ _ _ h => h) hS (fun _ => trivial) rfl (fun w' hq => ?h8k2) ?_
            case h8k2 => obtain ⟨q0, q1, -⟩ := hq; change _ = some _ at q0; change _ = some _ at q1; go_simp; try with_reducible rfl
            try simp only [Act.put, List.setIfInBounds_toArray, List.set_cons_zero, List.set_cons_succ, List.getElem_toArray, List.getElem_cons_succ, List.getElem_cons_zero]
            refine one_D 9 rfl (by kernel_rfl) (fun KQ hK => ?_)
            go_simp
            have hbc := (Below.refl V1.heap.size V1).alloc (Nat.le_refl _) (.cells #[.int .i32 0] 76)
            have kC := Blk.new V1 76 #[.int .i32 0]
            have hS2 : Holds [(g, off, .int .u8 x0), (gf, 2, .int .u64 4)] (V1.alloc (.cells #[.int .i32 0] 76)) := Holds.below hS hbc
            refine hK.out _ _ hS2 (fun _ => trivial) ?_
            clear hK
            obtain ⟨n0, n1, n2⟩ := kC.c1
            refine one_D 10 rfl (by kernel_rfl) (fun KQ hK => ?_)
            go_simp
            have hbc2 := (Below.refl V1.heap.size V1).alloc (Nat.le_refl _) (.cells #[.int .i32 (startC x0 16)] 76)
            have HC := Lib.hid (Blk.new V1 76 #[.int .i32 (startC x0 16)])
            have HB2 := Lib.hid (HB1.out.trans (hbc2.mono HB1.out.size))
            have Hfz := Lib.hid hfz
            refine hK.out _ _ (Holds.below hS hbc2) (fun _ => trivial) ?_
            clear hK hS hS2 hbc kC hbc2 HB1 n0 n1 n2 hfz
            refine done_D (by kernel_rfl) ?_ _
            change Exit.then _ _ _ _ (V1.alloc (.cells #[.int .i32 (startC x0 16)] 76))
            rw [show W1.heap.size = V1.heap.size from Hfz.out.symm]
            have hz2 : (V1.alloc (.cells #[.int .i32 (startC x0 16)] 76)).heap.size = V1.heap.size + 1 := World.size_alloc _ _
            have Hz2 := Lib.hid hz2
            clear hz2
            generalize V1.alloc (.cells #[.int .i32 (startC x0 16)] 76) = V2 at *
            generalize V1.heap.size = gc at *
            obtain ⟨rest, hrest⟩ : ∃ x, (b.drop 1).take (3 - 1) = x := ⟨_, rfl⟩
            have hrl : rest.length = 2 := by rw [← hrest, List.length_take, List.length_drop]; omega
            have Hrl := Lib.hid hrl
            have Hrest := Lib.hid hrest
            have Hgc := Lib.hid (show w.heap.size ≤ gc ∧ gc + 1 = V2.heap.size from ⟨by have := HGC.out; have := Hfz.out; omega, Hz2.out.symm⟩)
            clear hrest hrl hgz1
            go_wp2_with fail
            have hbk := (Below.refl V2.heap.size V2).alloc (Nat.le_refl _) (.cells #[.bool true] 4)
            have HC3 := Lib.hid (HC.out.below hbk)
            have HK3 := Lib.hid (Blk.new V2 4 #[.bool true])
            have HB3 := Lib.hid (HB2.out.trans (hbk.mono HB2.out.size))
            clear hbk HC HB2 HW HK
            generalize V2.alloc (.cells #[.bool true] 4) = V3 at *
            generalize V2.heap.size = gk at *
            go_loopw [54] (fun iv wy => ∃ j : Nat, j ≤ 2 ∧ iv = .int .i64 j ∧ Hid (Blk wy gc 76 #[.int .i32 (nexts (rest.take j) (true, startC x0 16)).2] ∧ Blk wy gk 4 #[.bool (nexts (rest.take j) (true, startC x0 16)).1] ∧ Below w.heap.size w wy)) (fun iv _ => 2 - (intOf iv).toNat)
            case atStart => exact ⟨0, Nat.zero_le _, rfl, Lib.hid ⟨HC3.out, HK3.out, HB3.out⟩⟩
            case round =>
              obtain ⟨j, hj, rfl, hY⟩ := hrel
              clear HC3 HK3 HB3
              by_cases hlt : j < 2
              · have hjr : j < rest.length := by rw [Hrl.out]; exact hlt
                obtain ⟨xj, hxj⟩ : ∃ x : Int, x = (rest[j].toNat : Int) := ⟨_, rfl⟩
                have ej : wr.cell? ⟨g, off + 1 + j, none⟩ = some (.int .u8 xj) := by
                  obtain ⟨g', off', he, -, -, hcell⟩ := Rd.addr (H.out.below hY.out.2.2) hlen
                  injection he with he
                  injection he with h1 h2 _
                  subst h1; subst h2
                  have hbj : 1 + j < b.length := by omega
                  have hrj : rest[j] = b[1 + j] := by simp only [← Hrest.out, List.getElem_take, List.getElem_drop]
                  have := hcell (1 + j) (.int .u8 (b[1 + j].toNat)) (by unfold bcells; rw [List.getElem?_map, List.getElem?_eq_getElem hbj]; rfl)
                  rw [hxj, hrj, Nat.add_assoc]
                  exact this
                have Hst := Lib.hid (show nexts (rest.take (j + 1)) (true, startC x0 16) = (nextOk (nexts (rest.take j) (true, startC x0 16)).1 xj, nextC (nexts (rest.take j) (true, startC x0 16)).2 xj) from by
                  rw [List.take_succ_eq_append_getElem hjr, nexts_snoc, hxj])
                clear hxj hjr
                obtain ⟨s, hs⟩ : ∃ s, nexts (rest.take j) (true, startC x0 16) = s := ⟨_, rfl⟩
                have HY := Lib.hid (show Blk wr gc 76 #[.int .i32 s.2] ∧ Blk wr gk 4 #[.bool s.1] ∧ Below w.heap.size w wr from by rw [← hs]; exact hY.out)
                have HS := Lib.hid hs
                clear hY hs
                go_wp2_with fail
                refine (utf_next HY.out.2.1 HY.out.1).mono ?_
                rintro _ _ ⟨rfl, rfl⟩
                have hne : gk ≠ gc := by have := Hgc.out; omega
                have HY2 := Lib.hid (show Blk ((wr.setCell ⟨gk, 0, none⟩ (.bool (nextOk s.1 xj))).setCell ⟨gc, 0, none⟩ (.int .i32 (nextC s.2 xj))) gc 76 #[.int .i32 (nextC s.2 xj)] ∧ Blk ((wr.setCell ⟨gk, 0, none⟩ (.bool (nextOk s.1 xj))).setCell ⟨gc, 0, none⟩ (.int .i32 (nextC s.2 xj))) gk 4 #[.bool (nextOk s.1 xj)] ∧ Below w.heap.size w ((wr.setCell ⟨gk, 0, none⟩ (.bool (nextOk s.1 xj))).setCell ⟨gc, 0, none⟩ (.int .i32 (nextC s.2 xj))) from
                  ⟨by simpa using (HY.out.1.far (p := ⟨gk, 0, none⟩) hne.symm (.bool (nextOk s.1 xj))).set_ 0 (.int .i32 (nextC s.2 xj)), by simpa using (HY.out.2.1.set_ 0 (.bool (nextOk s.1 xj))).far (p := ⟨gc, 0, none⟩) hne (.int .i32 (nextC s.2 xj)), (HY.out.2.2.setCell (p := ⟨gk, 0, none⟩) (show w.heap.size ≤ gk by have := Hgc.out; omega) _).setCell (p := ⟨gc, 0, none⟩) Hgc.out.1 _⟩)
                clear ej hne HY
                go_wp2_with fail
                go_roundw
                case rel => exact ⟨j + 1, by omega, by go_num, by rw [Hst.out, HS.out]; exact HY2⟩
                case measure => simp [intOf]; omega
              · obtain rfl : j = 2 := by omega
                obtain ⟨s, hs⟩ : ∃ s, nexts rest (true, startC x0 16) = s := ⟨_, rfl⟩
                have HY := Lib.hid (show Blk wr gc 76 #[.int .i32 s.2] ∧ Blk wr gk 4 #[.bool s.1] ∧ Below w.heap.size w wr from by
                  have := hY.out
                  rw [List.take_of_length_le (by rw [Hrl.out]; exact Nat.le_refl _), hs] at this
                  exact this)
                have Hat := Lib.hid (show atB b x0 2 = if (s.1 && (sizeC s.2 == 3)) = true then some (s.2, 3) else none from by
                  show formB b x0 16 14 3 = _
                  unfold formB
                  rw [if_pos ⟨hq, by omega⟩]
                  simp only [Hrest.out, hs])
                obtain ⟨s1, s2⟩ := s
                clear hY hs hlt hj
                obtain ⟨c0, -, -⟩ := HY.out.1.c1
                obtain ⟨d0', -, -⟩ := HY.out.2.1.c1
                simp only at c0 d0'
                clear hq hn
                cases s1 with
                | false =>
                  have HN2 := Lib.hid (show ∀ i, i < 2 + 1 → atB b x0 i = none from fun i hi => (Nat.lt_succ_iff_lt_or_eq.1 hi).elim (HN.out i) (fun e => by rw [e, Hat.out]; rfl))
                  have HB4 := Lib.hid HY.out.2.2
                  clear Hat HN
                  go_wp2_with fail
                  go_roundw
                  case rel => exact ⟨2 + 1, by omega, by go_num, Lib.hid ⟨HB4.out, HN2.out⟩⟩
                  case measure => simp [intOf]
                | true =>
                  go_wp2_with fail
                  refine (utf_Size (HF.out.below HY.out.2.2)).mono ?_
                  rintro _ w5 ⟨rfl, hb5⟩
                  have c0 := (HY.out.1.below hb5).cell 0
                  have d0' := (HY.out.2.1.below hb5).cell 0
                  simp only [List.getElem?_toArray, List.getElem?_cons_zero] at c0 d0'
                  have HB4 := Lib.hid (HY.out.2.2.trans (hb5.mono HY.out.2.2.size))
                  clear hb5 HY
                  by_cases hz : sizeC s2 = 3
                  · have dz : ((sizeC s2 : Int) == 3) = true := by rw [hz]; rfl
                    obtain rfl : r = (s2, 3) := by
                      rw [← Hr.out]
                      exact firstB_at (k := 2) hlen (by rw [← Hx0.out]; exact HN.out) (by rw [← Hx0.out, Hat.out, hz]; rfl)
                    clear hz Hat HN
                    go_wp2_with fail
                    go_ret2
                    exact ⟨rfl, HB4.out⟩
                  · have dz : ((sizeC s2 : Int) == 3) = false := by simp; omega
                    have HN2 := Lib.hid (show ∀ i, i < 2 + 1 → atB b x0 i = none from fun i hi => (Nat.lt_succ_iff_lt_or_eq.1 hi).elim (HN.out i) (fun e => by rw [e, Hat.out, if_neg (by simpa using hz)]))
                    clear hz Hat HN
                    go_wp2_with fail
                    go_roundw
                    case rel => exact ⟨2 + 1, by omega, by go_num, Lib.hid ⟨HB4.out, HN2.out⟩⟩
                    case measure => simp [intOf]
        · have dq : (x0 / 16 != 14) = true := by simpa using hq
          have HN2 := Lib.hid (show ∀ j, j < 2 + 1 → atB b x0 j = none from fun j hj => (Nat.lt_succ_iff_lt_or_eq.1 hj).elim (HN.out j) (fun e => by rw [e]; exact if_neg (fun hh => hq hh.1)))
          have HB2 := Lib.hid HW.out.drew
          go_region
          go_wp2_with fail
          go_roundw
          case rel => exact ⟨2 + 1, by omega, by go_num, Lib.hid ⟨HB2.out, HN2.out⟩⟩
          case measure => simp [intOf]
      · clear hk
        have ex := fx3
        have HK := Lib.hid (Blk.new wr 130 #[.int .i32 1114111, .int .u8 240, .int .u64 3])
        have HW := Lib.hid (hR.out.1.trans (((Below.refl wr.heap.size wr).alloc (Nat.le_refl _) (.cells #[.int .i32 1114111, .int .u8 240, .int .u64 3] 130)).mono hR.out.1.size))
        have HN := Lib.hid hR.out.2
        go_upto_region 7 with fail
        clear e1 hgz1 hR
        generalize wr.alloc (.cells #[.int .i32 1114111, .int .u8 240, .int .u64 3] 130) = W1 at *
        generalize wr.heap.size = gf at *
        obtain ⟨m0, m1, m2, -, -, -, hmz⟩ := HK.out.c3
        have e1 : W1.cell? ⟨g, off, none⟩ = some (.int .u8 x0) := (HW.out.cell (p := ⟨g, off, none⟩) hgz).trans e0
        have hgz1 := Nat.lt_of_lt_of_le hgz HW.out.size
        by_cases hq : x0 / 8 = 30
        · have dq : (x0 / 8 != 30) = false := by simpa using hq
          by_cases hn : b.length < 4
          · have dn : decide ((b.length : Int) < 4) = true := by simp; omega
            have HN2 := Lib.hid (show ∀ j, j < 3 + 1 → atB b x0 j = none from fun j hj => (Nat.lt_succ_iff_lt_or_eq.1 hj).elim (HN.out j) (fun e => by rw [e]; exact if_neg (fun hh => by have := hh.2; omega)))
            have HB2 := Lib.hid HW.out.drew
            go_region
            go_wp2_with fail
            go_roundw
            case rel => exact ⟨3 + 1, by omega, by go_num, Lib.hid ⟨HB2.out, HN2.out⟩⟩
            case measure => simp [intOf]
          · have dn : decide ((b.length : Int) < 4) = false := by simp; omega
            go_region
            clear dq dn m0 m1
            go_upto_region 8 with fail
            have hS : Holds [(g, off, .int .u8 x0), (gf, 2, .int .u64 3)] W1.drew.drew := ⟨e1, m2, trivial⟩
            have HB1 := Lib.hid HW.out.drew.drew
            have hfz : W1.drew.drew.heap.size = W1.heap.size := rfl
            have HGC := Lib.hid (show w.heap.size ≤ W1.heap.size from HW.out.size)
            clear e1 m2 hmz
            refine begin_D (T := Hold0) [] (by kernel_rfl) hS (fun _ => trivial) ?_
            generalize W1.drew.drew = V1 at *
            refine take_S (v := ?v0k3) 0 rfl (by kernel_rfl) (by kernel_rfl) (by kernel_rfl) (by kernel_rfl) (fun _ _ _ h => h) hS (fun _ => trivial) rfl (fun w' hq => ?h0k3) ?_
            case h0k3 => obtain ⟨q0, q1, -⟩ := hq; change _ = some _ at q0; change _ = some _ at q1; go_simp; try with_reducible rfl
            try simp only [Act.put, List.setIfInBounds_toArray, List.set_cons_zero, List.set_cons_succ, List.getElem_toArray, List.getElem_cons_succ, List.getElem_cons_zero]
            refine take_S (v := ?v1k3) 1 rfl (by kernel_rfl) (by kernel_rfl) (by kernel_rfl) (by kernel_rfl) (fun _ _ _ h => h) hS (fun _ => trivial) rfl (fun w' hq => ?h1k3) ?_
            case h1k3 => obtain ⟨q0, q1, -⟩ := hq; change _ = some _ at q0; change _ = some _ at q1; go_simp; try with_reducible rfl
            try simp only [Act.put, List.setIfInBounds_toArray, List.set_cons_zero, List.set_cons_succ, List.getElem_toArray, List.getElem_cons_succ, List.getElem_cons_zero]
            refine take_S (v := ?v2k3) 2 rfl (by kernel_rfl) (by kernel_rfl) (by kernel_rfl) (by kernel_rfl) (fun _ _ _ h => h) hS (fun _ => trivial) rfl (fun w' hq => ?h2k3) ?_
            case h2k3 => obtain ⟨q0, q1, -⟩ := hq; change _ = some _ at q0; change _ = some _ at q1; go_simp; try with_reducible rfl
            try simp only [Act.put, List.setIfInBounds_toArray, List.set_cons_zero, List.set_cons_succ, List.getElem_toArray, List.getElem_cons_succ, List.getElem_cons_zero]
            refine take_S (v := ?v3k3) 3 rfl (by kernel_rfl) (by kernel_rfl) (by kernel_rfl) (by kernel_rfl) (fun _ _ _ h => h) hS (fun _ => trivial) rfl (fun w' hq => ?h3k3) ?_
            case h3k3 => obtain ⟨q0, q1, -⟩ := hq; change _ = some _ at q0; change _ = some _ at q1; go_simp; try with_reducible rfl
            try simp only [Act.put, List.setIfInBounds_toArray, List.set_cons_zero, List.set_cons_succ, List.getElem_toArray, List.getElem_cons_succ, List.getElem_cons_zero]
            refine take_S (v := ?v4k3) 4 rfl (by kernel_rfl) (by kernel_rfl) (by kernel_rfl) (by kernel_rfl) (fun _ _ _ h => h) hS (fun _ => trivial) rfl (fun w' hq => ?h4k3) ?_
            case h4k3 => obtain ⟨q0, q1, -⟩ := hq; change _ = some _ at q0; change _ = some _ at q1; go_simp; try with_reducible rfl
            try simp only [Act.put, List.setIfInBounds_toArray, List.set_cons_zero, List.set_cons_succ, List.getElem_toArray, List.getElem_cons_succ, List.getElem_cons_zero]
            refine take_S (v := ?v5k3) 5 rfl (by kernel_rfl) (by kernel_rfl) (by kernel_rfl) (by kernel_rfl) (fun _ _ _ h => h) hS (fun _ => trivial) rfl (fun w' hq => ?h5k3) ?_
            case h5k3 => obtain ⟨q0, q1, -⟩ := hq; change _ = some _ at q0; change _ = some _ at q1; go_simp; try with_reducible rfl
            try simp only [Act.put, List.setIfInBounds_toArray, List.set_cons_zero, List.set_cons_succ, List.getElem_toArray, List.getElem_cons_succ, List.getElem_cons_zero]
            refine take_S (v := ?v6k3) 6 rfl (by kernel_rfl) (by kernel_rfl) (by kernel_rfl) (by kernel_rfl) (fun _ _ _ h => h) hS (fun _ => trivial) rfl (fun w' hq => ?h6k3) ?_
            case h6k3 => obtain ⟨q0, q1, -⟩ := hq; change _ = some _ at q0; change _ = some _ at q1; go_simp; try with_reducible rfl
            try simp only [Act.put, List.setIfInBounds_toArray, List.set_cons_zero, List.set_cons_succ, List.getElem_toArray, List.getElem_cons_succ, List.getElem_cons_zero]
            refine take_S (v := ?v7k3) 7 rfl (by kernel_rfl) (by kernel_rfl) (by kernel_rfl) (by kernel_rfl) (fun _ _ _ h => h) hS (fun _ => trivial) rfl (fun w' hq => ?h7k3) ?_
            case h7k3 => obtain ⟨q0, q1, -⟩ := hq; change _ = some _ at q0; change _ = some _ at q1; go_simp; try with_reducible rfl
            try simp only [Act.put, List.setIfInBounds_toArray, List.set_cons_zero, List.set_cons_succ, List.getElem_toArray, List.getElem_cons_succ, List.getElem_cons_zero]
            refine take_S (v := ?v8k3) 8 rfl (by kernel_rfl) (by kernel_rfl) (by kernel_rfl) (by kernel_rfl) (fun _ _ _ h => h) hS (fun _ => trivial) rfl (fun w' hq => ?h8k3) ?_
            case h8k3 => obtain ⟨q0, q1, -⟩ := hq; change _ = some _ at q0; change _ = some _ at q1; go_simp; try with_reducible rfl
            try simp only [Act.put, List.setIfInBounds_toArray, List.set_cons_zero, List.set_cons_succ, List.getElem_toArray, List.getElem_cons_succ, List.getElem_cons_zero]
            refine one_D 9 rfl (by kernel_rfl) (fun KQ hK => ?_)
            go_simp
            have hbc := (Below.refl V1.heap.size V1).alloc (Nat.le_refl _) (.cells #[.int .i32 0] 76)
            have kC := Blk.new V1 76 #[.int .i32 0]
            have hS2 : Holds [(g, off, .int .u8 x0), (gf, 2, .int .u64 3)] (V1.alloc (.cells #[.int .i32 0] 76)) := Holds.below hS hbc
            refine hK.out _ _ hS2 (fun _ => trivial) ?_
            clear hK
            obtain ⟨n0, n1, n2⟩ := kC.c1
            refine one_D 10 rfl (by kernel_rfl) (fun KQ hK => ?_)
            go_simp
            have hbc2 := (Below.refl V1.heap.size V1).alloc (Nat.le_refl _) (.cells #[.int .i32 (startC x0 8)] 76)
            have HC := Lib.hid (Blk.new V1 76 #[.int .i32 (startC x0 8)])
            have HB2 := Lib.hid (HB1.out.trans (hbc2.mono HB1.out.size))
            have Hfz := Lib.hid hfz
            refine hK.out _ _ (Holds.below hS hbc2) (fun _ => trivial) ?_
            clear hK hS hS2 hbc kC hbc2 HB1 n0 n1 n2 hfz
            refine done_D (by kernel_rfl) ?_ _
            change Exit.then _ _ _ _ (V1.alloc (.cells #[.int .i32 (startC x0 8)] 76))
            rw [show W1.heap.size = V1.heap.size from Hfz.out.symm]
            have hz2 : (V1.alloc (.cells #[.int .i32 (startC x0 8)] 76)).heap.size = V1.heap.size + 1 := World.size_alloc _ _
            have Hz2 := Lib.hid hz2
            clear hz2
            generalize V1.alloc (.cells #[.int .i32 (startC x0 8)] 76) = V2 at *
            generalize V1.heap.size = gc at *
            obtain ⟨rest, hrest⟩ : ∃ x, (b.drop 1).take (4 - 1) = x := ⟨_, rfl⟩
            have hrl : rest.length = 3 := by rw [← hrest, List.length_take, List.length_drop]; omega
            have Hrl := Lib.hid hrl
            have Hrest := Lib.hid hrest
            have Hgc := Lib.hid (show w.heap.size ≤ gc ∧ gc + 1 = V2.heap.size from ⟨by have := HGC.out; have := Hfz.out; omega, Hz2.out.symm⟩)
            clear hrest hrl hgz1
            go_wp2_with fail
            have hbk := (Below.refl V2.heap.size V2).alloc (Nat.le_refl _) (.cells #[.bool true] 4)
            have HC3 := Lib.hid (HC.out.below hbk)
            have HK3 := Lib.hid (Blk.new V2 4 #[.bool true])
            have HB3 := Lib.hid (HB2.out.trans (hbk.mono HB2.out.size))
            clear hbk HC HB2 HW HK
            generalize V2.alloc (.cells #[.bool true] 4) = V3 at *
            generalize V2.heap.size = gk at *
            go_loopw [54] (fun iv wy => ∃ j : Nat, j ≤ 3 ∧ iv = .int .i64 j ∧ Hid (Blk wy gc 76 #[.int .i32 (nexts (rest.take j) (true, startC x0 8)).2] ∧ Blk wy gk 4 #[.bool (nexts (rest.take j) (true, startC x0 8)).1] ∧ Below w.heap.size w wy)) (fun iv _ => 3 - (intOf iv).toNat)
            case atStart => exact ⟨0, Nat.zero_le _, rfl, Lib.hid ⟨HC3.out, HK3.out, HB3.out⟩⟩
            case round =>
              obtain ⟨j, hj, rfl, hY⟩ := hrel
              clear HC3 HK3 HB3
              by_cases hlt : j < 3
              · have hjr : j < rest.length := by rw [Hrl.out]; exact hlt
                obtain ⟨xj, hxj⟩ : ∃ x : Int, x = (rest[j].toNat : Int) := ⟨_, rfl⟩
                have ej : wr.cell? ⟨g, off + 1 + j, none⟩ = some (.int .u8 xj) := by
                  obtain ⟨g', off', he, -, -, hcell⟩ := Rd.addr (H.out.below hY.out.2.2) hlen
                  injection he with he
                  injection he with h1 h2 _
                  subst h1; subst h2
                  have hbj : 1 + j < b.length := by omega
                  have hrj : rest[j] = b[1 + j] := by simp only [← Hrest.out, List.getElem_take, List.getElem_drop]
                  have := hcell (1 + j) (.int .u8 (b[1 + j].toNat)) (by unfold bcells; rw [List.getElem?_map, List.getElem?_eq_getElem hbj]; rfl)
                  rw [hxj, hrj, Nat.add_assoc]
                  exact this
                have Hst := Lib.hid (show nexts (rest.take (j + 1)) (true, startC x0 8) = (nextOk (nexts (rest.take j) (true, startC x0 8)).1 xj, nextC (nexts (rest.take j) (true, startC x0 8)).2 xj) from by
                  rw [List.take_succ_eq_append_getElem hjr, nexts_snoc, hxj])
                clear hxj hjr
                obtain ⟨s, hs⟩ : ∃ s, nexts (rest.take j) (true, startC x0 8) = s := ⟨_, rfl⟩
                have HY := Lib.hid (show Blk wr gc 76 #[.int .i32 s.2] ∧ Blk wr gk 4 #[.bool s.1] ∧ Below w.heap.size w wr from by rw [← hs]; exact hY.out)
                have HS := Lib.hid hs
                clear hY hs
                go_wp2_with fail
                refine (utf_next HY.out.2.1 HY.out.1).mono ?_
                rintro _ _ ⟨rfl, rfl⟩
                have hne : gk ≠ gc := by have := Hgc.out; omega
                have HY2 := Lib.hid (show Blk ((wr.setCell ⟨gk, 0, none⟩ (.bool (nextOk s.1 xj))).setCell ⟨gc, 0, none⟩ (.int .i32 (nextC s.2 xj))) gc 76 #[.int .i32 (nextC s.2 xj)] ∧ Blk ((wr.setCell ⟨gk, 0, none⟩ (.bool (nextOk s.1 xj))).setCell ⟨gc, 0, none⟩ (.int .i32 (nextC s.2 xj))) gk 4 #[.bool (nextOk s.1 xj)] ∧ Below w.heap.size w ((wr.setCell ⟨gk, 0, none⟩ (.bool (nextOk s.1 xj))).setCell ⟨gc, 0, none⟩ (.int .i32 (nextC s.2 xj))) from
                  ⟨by simpa using (HY.out.1.far (p := ⟨gk, 0, none⟩) hne.symm (.bool (nextOk s.1 xj))).set_ 0 (.int .i32 (nextC s.2 xj)), by simpa using (HY.out.2.1.set_ 0 (.bool (nextOk s.1 xj))).far (p := ⟨gc, 0, none⟩) hne (.int .i32 (nextC s.2 xj)), (HY.out.2.2.setCell (p := ⟨gk, 0, none⟩) (show w.heap.size ≤ gk by have := Hgc.out; omega) _).setCell (p := ⟨gc, 0, none⟩) Hgc.out.1 _⟩)
                clear ej hne HY
                go_wp2_with fail
                go_roundw
                case rel => exact ⟨j + 1, by omega, by go_num, by rw [Hst.out, HS.out]; exact HY2⟩
                case measure => simp [intOf]; omega
              · obtain rfl : j = 3 := by omega
                obtain ⟨s, hs⟩ : ∃ s, nexts rest (true, startC x0 8) = s := ⟨_, rfl⟩
                have HY := Lib.hid (show Blk wr gc 76 #[.int .i32 s.2] ∧ Blk wr gk 4 #[.bool s.1] ∧ Below w.heap.size w wr from by
                  have := hY.out
                  rw [List.take_of_length_le (by rw [Hrl.out]; exact Nat.le_refl _), hs] at this
                  exact this)
                have Hat := Lib.hid (show atB b x0 3 = if (s.1 && (sizeC s.2 == 4)) = true then some (s.2, 4) else none from by
                  show formB b x0 8 30 4 = _
                  unfold formB
                  rw [if_pos ⟨hq, by omega⟩]
                  simp only [Hrest.out, hs])
                obtain ⟨s1, s2⟩ := s
                clear hY hs hlt hj
                obtain ⟨c0, -, -⟩ := HY.out.1.c1
                obtain ⟨d0', -, -⟩ := HY.out.2.1.c1
                simp only at c0 d0'
                clear hq hn
                cases s1 with
                | false =>
                  have HN2 := Lib.hid (show ∀ i, i < 3 + 1 → atB b x0 i = none from fun i hi => (Nat.lt_succ_iff_lt_or_eq.1 hi).elim (HN.out i) (fun e => by rw [e, Hat.out]; rfl))
                  have HB4 := Lib.hid HY.out.2.2
                  clear Hat HN
                  go_wp2_with fail
                  go_roundw
                  case rel => exact ⟨3 + 1, by omega, by go_num, Lib.hid ⟨HB4.out, HN2.out⟩⟩
                  case measure => simp [intOf]
                | true =>
                  go_wp2_with fail
                  refine (utf_Size (HF.out.below HY.out.2.2)).mono ?_
                  rintro _ w5 ⟨rfl, hb5⟩
                  have c0 := (HY.out.1.below hb5).cell 0
                  have d0' := (HY.out.2.1.below hb5).cell 0
                  simp only [List.getElem?_toArray, List.getElem?_cons_zero] at c0 d0'
                  have HB4 := Lib.hid (HY.out.2.2.trans (hb5.mono HY.out.2.2.size))
                  clear hb5 HY
                  by_cases hz : sizeC s2 = 4
                  · have dz : ((sizeC s2 : Int) == 4) = true := by rw [hz]; rfl
                    obtain rfl : r = (s2, 4) := by
                      rw [← Hr.out]
                      exact firstB_at (k := 3) hlen (by rw [← Hx0.out]; exact HN.out) (by rw [← Hx0.out, Hat.out, hz]; rfl)
                    clear hz Hat HN
                    go_wp2_with fail
                    go_ret2
                    exact ⟨rfl, HB4.out⟩
                  · have dz : ((sizeC s2 : Int) == 4) = false := by simp; omega
                    have HN2 := Lib.hid (show ∀ i, i < 3 + 1 → atB b x0 i = none from fun i hi => (Nat.lt_succ_iff_lt_or_eq.1 hi).elim (HN.out i) (fun e => by rw [e, Hat.out, if_neg (by simpa using hz)]))
                    clear hz Hat HN
                    go_wp2_with fail
                    go_roundw
                    case rel => exact ⟨3 + 1, by omega, by go_num, Lib.hid ⟨HB4.out, HN2.out⟩⟩
                    case measure => simp [intOf]
        · have dq : (x0 / 8 != 30) = true := by simpa using hq
          have HN2 := Lib.hid (show ∀ j, j < 3 + 1 → atB b x0 j = none from fun j hj => (Nat.lt_succ_iff_lt_or_eq.1 hj).elim (HN.out j) (fun e => by rw [e]; exact if_neg (fun hh => hq hh.1)))
          have HB2 := Lib.hid HW.out.drew
          go_region
          go_wp2_with fail
          go_roundw
          case rel => exact ⟨3 + 1, by omega, by go_num, Lib.hid ⟨HB2.out, HN2.out⟩⟩
          case measure => simp [intOf]
      · clear hk
        obtain rfl : r = (0, 0) := by rw [← Hr.out]; exact firstB_no hlen (by rw [← Hx0.out]; exact hR.out.2)
        go_wp2_with fail
        go_ret2
        exact ⟨rfl, hR.out.1⟩
end Go.Proofs.YtciojggkcmdjiaaDoor
