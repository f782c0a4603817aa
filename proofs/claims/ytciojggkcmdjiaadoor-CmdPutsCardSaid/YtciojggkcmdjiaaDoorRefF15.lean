/-
  The reference's first code point of bytes (copybookref04.first): its contract. No condition. (Printed by wip/gen_reff15.py.)
-/
import Derived.Test.YtciojggkcmdjiaaDoorRefU15
namespace Go.Proofs.YtciojggkcmdjiaaDoor
open Go.RowKit
set_option linter.unusedSimpArgs false
set_option linter.unusedVariables false

theorem wrapI {n : Int} (h0 : -2147483648 ≤ n) (h1 : n ≤ 2147483647) : IntKind.i32.wrap n = n := by
  simp only [IntKind.wrap, IntKind.bits, IntKind.signed]
  simp
  omega
theorem firstB_no' {b : List UInt8} {k : Nat} (h0 : 0 < b.length) (hk : ∀ j, j < k → atB b (b[0].toNat : Int) j = none) (h : 4 ≤ k ∨ b.length ≤ k) : (firstB b).2 = 0 := by
  rw [firstB_no h0 fun j hj => ?_]
  rcases Nat.lt_or_ge j k with h1 | h1
  · exact hk j h1
  · exact atB_far (by omega)
theorem firstB_at' {b : List UInt8} {k : Nat} (h0 : 0 < b.length) (hk : ∀ j, j < k → atB b (b[0].toNat : Int) j = none) (h : (atB b (b[0].toNat : Int) k).isSome = true) : (firstB b).2 = k + 1 := by
  obtain ⟨r, hr⟩ := Option.isSome_iff_exists.1 h
  rw [firstB_at h0 hk hr]
  exact atB_k hr
theorem none_of {b : List UInt8} {x : Int} {k : Nat} (h : ¬ (atB b x k).isSome = true) (hk : ∀ j, j < k → atB b x j = none) : ∀ j, j < k + 1 → atB b x j = none := by
  intro j hj
  rcases Nat.lt_or_ge j k with h1 | h1
  · exact hk j h1
  · obtain rfl : j = k := by omega
    simpa using h
theorem str_of {w : World} {S : Nat → Prop} {p : Option Addr} {c n : Nat} {l : List UInt8} (h : CmdRd w S (.slice p n c) l) (hn : n = l.length) : (convert 27 9 (.slice p n c)).run Tryd.prog w = .ok (.string ⟨l.toArray⟩) w := by
  subst hn
  exact Rd.str h
def Rst (p : Option Addr) (n c : Nat) (l : List UInt8) (w : World) : Prop := ∃ S, CmdRd w S (.slice p n c) l
set_option maxHeartbeats 25600000 in
set_option maxRecDepth 100000 in
theorem ref04_first {w : World} {S : Nat → Prop} {v : Value} {b : List UInt8} (h : CmdRd w S v b) : Calls Tryd.prog 83 #[v] w fun x w' => (∃ c, x = .returned (.tuple #[.int .i32 c, .int .i64 ((firstB b).2 : Nat)])) ∧ Below w.heap.size w w' := by
  obtain ⟨p, c, rfl⟩ := h.slice
  have H := Lib.hid h
  clear h
  obtain ⟨r, hr⟩ : ∃ x, (firstB b).2 = x := ⟨_, rfl⟩
  rw [hr]
  have Hr := Lib.hid hr
  clear hr
  by_cases hb0 : b.length = 0
  · obtain rfl : r = 0 := by rw [← Hr.out, List.eq_nil_of_length_eq_zero hb0]; rfl
    have d0 : decide ((1 : Int) ≤ (b.length : Int)) = false := by simp; omega
    clear hb0
    go_enter Tryd.func83, Tryd.ntmps83
    go_wp2_with fail
    go_loopw [4] (fun nv wr => nv = .int .i64 1 ∧ wr = w) (fun _ _ => 0)
    case atStart => exact ⟨rfl, rfl⟩
    case round =>
      obtain ⟨rfl, hwr⟩ := hrel
      subst hwr
      go_wp2_with fail
      go_ret2
      exact ⟨⟨_, rfl⟩, Below.refl _ _⟩
  · have hlen : 0 < b.length := by omega
    have hsplit : ∃ g off, p = some ⟨g, off, none⟩ ∧ b.length ≤ c ∧ ∀ wr, Below w.heap.size w wr → ∀ j (hj : j < b.length), wr.cell? ⟨g, off + j, none⟩ = some (.int .u8 (b[j].toNat : Nat)) := by
      obtain ⟨g, off, hp, hlc, -, hcell⟩ := Rd.addr H.out hlen
      refine ⟨g, off, hp, hlc, fun wr hb j hj => ?_⟩
      have := hcell j _ (by unfold bcells; rw [List.getElem?_map, List.getElem?_eq_getElem hj]; rfl)
      exact (hb.cell (p := ⟨g, off + j, none⟩) (lt_of_cell this)).trans this
    obtain ⟨g, off, rfl, hlc, hcell⟩ := hsplit
    have HC := Lib.hid hcell
    obtain ⟨y0, hy0⟩ : ∃ x : Int, (b[0].toNat : Int) = x := ⟨_, rfl⟩
    have Hy0 := Lib.hid hy0
    have hy1 : 0 ≤ y0 ∧ y0 ≤ 255 := by have := b[0].toNat_lt; omega
    obtain ⟨hya, hyb⟩ := hy1
    clear hcell hb0 hy0
    go_enter Tryd.func83, Tryd.ntmps83
    go_wp2_with fail
    go_loopw [4] (fun nv wr => ∃ k : Nat, k ≤ 4 ∧ nv = .int .i64 ((k : Int) + 1) ∧ Hid (Below w.heap.size w wr ∧ ∀ j, j < k → atB b (b[0].toNat : Int) j = none)) (fun nv _ => 5 - (intOf nv).toNat)
    case atStart => exact ⟨0, by omega, rfl, Lib.hid ⟨Below.refl _ w, fun j hj => absurd hj (by omega)⟩⟩
    case round =>
      obtain ⟨k, hk, rfl, hR⟩ := hrel
      have e0 : wr.cell? ⟨g, off, none⟩ = some (.int .u8 y0) := by
        have := HC.out wr hR.out.1 0 hlen
        rw [Hy0.out] at this
        simpa using this
      have HB := Lib.hid hR.out.1
      have HN := Lib.hid hR.out.2
      clear hR
      by_cases hkl : b.length ≤ k
      · have d0 : decide ((k : Int) + 1 ≤ (b.length : Int)) = false := by simp; omega
        obtain rfl : r = 0 := by rw [← Hr.out]; exact firstB_no' hlen HN.out (.inr hkl)
        clear hkl
        by_cases h4 : k = 4
        · subst h4
          go_wp2_with fail
          go_ret2
          exact ⟨⟨_, rfl⟩, HB.out⟩
        · have d4 : decide ((k : Int) + 1 ≤ 4) = true := by simp; omega
          go_wp2_with fail
          go_ret2
          exact ⟨⟨_, rfl⟩, HB.out⟩
      · rcases (show k = 0 ∨ k = 1 ∨ k = 2 ∨ k = 3 ∨ k = 4 by omega) with rfl | rfl | rfl | rfl | rfl
        · have dl : decide ((0 : Int) + 1 ≤ (b.length : Int)) = true := by simp; omega
          have hkl2 : 0 < b.length := by omega
          have hkc : (1 : Int) ≤ (c : Int) := by omega
          clear hk hkl
          obtain ⟨s, hs⟩ : ∃ x : Int, x = y0 := ⟨_, rfl⟩
          have hs2 : -255 ≤ s ∧ s ≤ 255 := by omega
          have Hs2 := Lib.hid hs2
          have Hs := Lib.hid hs
          clear hs hs2
          go_wp2_with fail
          rw [← Hs.out]
          obtain ⟨w1, hw1⟩ : ∃ x, x = wr := ⟨_, rfl⟩
          subst hw1
          go_loopw [5, 6] (fun cv iv wr => ∃ i : Nat, 1 ≤ i ∧ i ≤ 1 ∧ iv = .int .i64 i ∧ cv = .int .i64 (rF b s i) ∧ Hid (Below w1.heap.size w1 wr)) (fun _ iv _ => 1 - (intOf iv).toNat)
          case atStart => exact ⟨1, by omega, by omega, rfl, rfl, Lib.hid (Below.refl _ _)⟩
          case round =>
            obtain ⟨i, hi1, hi4, rfl, rfl, hQ⟩ := hrel
            have HB2 := Lib.hid (HB.out.trans (hQ.out.mono HB.out.size))
            have HQ := Lib.hid hQ.out
            clear hQ
            have hcb := rF_bound (b := b) (i := i) Hs2.out.1 Hs2.out.2 (by omega)
            by_cases hin : i < 1
            · exact absurd hin (by omega)
            · obtain rfl : i = 1 := by omega
              have Hat := Lib.hid (at_ref (k := 0) (by decide) hkl2)
              have Ers := Lib.hid (show rstart (b[0].toNat : Int) (0 + 1) = s by rw [Hs.out, Hy0.out]; rfl)
              obtain ⟨cc, hcc⟩ : ∃ x, rF b s 1 = x := ⟨_, rfl⟩
              rw [hcc] at hcb
              have Hcc := Lib.hid hcc
              rw [hcc]
              obtain ⟨hca, hcd⟩ := hcb
              clear hcc e0 dl hin hi1 hi4
              have hrd := Lib.hid (CmdRd.front (Rd.below H.out (by decide) HB2.out) (show 1 ≤ b.length from hkl2))
              go_upto_region 15 with fail
              have hS : Rst (some ⟨g, off, none⟩) 1 c (b.take 1) wr.drew := ⟨_, hrd.out⟩
              have HB3 := Lib.hid HB2.out.drew
              have wcc : IntKind.i32.wrap cc = cc := wrapI (by omega) (by omega)
              clear hrd HB2 HB
              refine begin_D (S := Rst (some ⟨g, off, none⟩) 1 c (b.take 1)) (T := Hold0) [] (by kernel_rfl) hS (fun _ => trivial) ?_
              generalize wr.drew = V1 at *
              refine take_S (v := ?v0k0) 0 rfl (by kernel_rfl) (by kernel_rfl) (by kernel_rfl) (by kernel_rfl) (fun _ _ _ h => h) hS (fun _ => trivial) rfl (fun w' hq => ?h0k0) ?_
              case h0k0 => go_simp; try with_reducible rfl
              try simp only [Act.put, List.setIfInBounds_toArray, List.set_cons_zero, List.set_cons_succ, List.getElem_toArray, List.getElem_cons_succ, List.getElem_cons_zero]
              refine take_S (v := ?v1k0) 1 rfl (by kernel_rfl) (by kernel_rfl) (by kernel_rfl) (by kernel_rfl) (fun _ _ _ h => h) hS (fun _ => trivial) rfl (fun w' hq => ?h1k0) ?_
              case h1k0 => go_simp; try with_reducible rfl
              try simp only [Act.put, List.setIfInBounds_toArray, List.set_cons_zero, List.set_cons_succ, List.getElem_toArray, List.getElem_cons_succ, List.getElem_cons_zero]
              refine one_D 2 rfl (by kernel_rfl) (fun KQ hK => ?_)
              go_simp
              refine ref04_May.mono ?_
              rintro _ _ ⟨rfl, rfl⟩
              refine hK.out _ _ hS (fun _ => trivial) ?_
              clear hK
              try simp only [Act.put, List.setIfInBounds_toArray, List.set_cons_zero, List.set_cons_succ, List.getElem_toArray, List.getElem_cons_succ, List.getElem_cons_zero]
              try rw [wcc]
              cases hm : mayC cc with
              | false =>
                have HN2 := Lib.hid (none_of (k := 0) (fun h => by have := (Hat.out.1 h).1; rw [Ers.out, Hcc.out, hm] at this; cases this) HN.out)
                clear hm wcc
                refine take_S (v := ?v3f0) 3 rfl (by kernel_rfl) (by kernel_rfl) (by kernel_rfl) (by kernel_rfl) (fun _ _ _ h => h) hS (fun _ => trivial) rfl (fun w' hq => ?h3f0) ?_
                case h3f0 => go_simp; try with_reducible rfl
                try simp only [Act.put, List.setIfInBounds_toArray, List.set_cons_zero, List.set_cons_succ, List.getElem_toArray, List.getElem_cons_succ, List.getElem_cons_zero]
                refine take_no 4 rfl (by kernel_rfl) (by kernel_rfl) (by kernel_rfl) (by kernel_rfl) (fun _ _ _ h => h) hS (fun _ => trivial) rfl ?_
                try simp only [Act.put, List.setIfInBounds_toArray, List.set_cons_zero, List.set_cons_succ, List.getElem_toArray, List.getElem_cons_succ, List.getElem_cons_zero]
                refine take_no 5 rfl (by kernel_rfl) (by kernel_rfl) (by kernel_rfl) (by kernel_rfl) (fun _ _ _ h => h) hS (fun _ => trivial) rfl ?_
                try simp only [Act.put, List.setIfInBounds_toArray, List.set_cons_zero, List.set_cons_succ, List.getElem_toArray, List.getElem_cons_succ, List.getElem_cons_zero]
                refine take_no 6 rfl (by kernel_rfl) (by kernel_rfl) (by kernel_rfl) (by kernel_rfl) (fun _ _ _ h => h) hS (fun _ => trivial) rfl ?_
                try simp only [Act.put, List.setIfInBounds_toArray, List.set_cons_zero, List.set_cons_succ, List.getElem_toArray, List.getElem_cons_succ, List.getElem_cons_zero]
                refine take_no 7 rfl (by kernel_rfl) (by kernel_rfl) (by kernel_rfl) (by kernel_rfl) (fun _ _ _ h => h) hS (fun _ => trivial) rfl ?_
                try simp only [Act.put, List.setIfInBounds_toArray, List.set_cons_zero, List.set_cons_succ, List.getElem_toArray, List.getElem_cons_succ, List.getElem_cons_zero]
                refine take_no 8 rfl (by kernel_rfl) (by kernel_rfl) (by kernel_rfl) (by kernel_rfl) (fun _ _ _ h => h) hS (fun _ => trivial) rfl ?_
                try simp only [Act.put, List.setIfInBounds_toArray, List.set_cons_zero, List.set_cons_succ, List.getElem_toArray, List.getElem_cons_succ, List.getElem_cons_zero]
                refine take_no 9 rfl (by kernel_rfl) (by kernel_rfl) (by kernel_rfl) (by kernel_rfl) (fun _ _ _ h => h) hS (fun _ => trivial) rfl ?_
                try simp only [Act.put, List.setIfInBounds_toArray, List.set_cons_zero, List.set_cons_succ, List.getElem_toArray, List.getElem_cons_succ, List.getElem_cons_zero]
                refine take_no 10 rfl (by kernel_rfl) (by kernel_rfl) (by kernel_rfl) (by kernel_rfl) (fun _ _ _ h => h) hS (fun _ => trivial) rfl ?_
                try simp only [Act.put, List.setIfInBounds_toArray, List.set_cons_zero, List.set_cons_succ, List.getElem_toArray, List.getElem_cons_succ, List.getElem_cons_zero]
                refine take_no 11 rfl (by kernel_rfl) (by kernel_rfl) (by kernel_rfl) (by kernel_rfl) (fun _ _ _ h => h) hS (fun _ => trivial) rfl ?_
                try simp only [Act.put, List.setIfInBounds_toArray, List.set_cons_zero, List.set_cons_succ, List.getElem_toArray, List.getElem_cons_succ, List.getElem_cons_zero]
                refine take_no 12 rfl (by kernel_rfl) (by kernel_rfl) (by kernel_rfl) (by kernel_rfl) (fun _ _ _ h => h) hS (fun _ => trivial) rfl ?_
                try simp only [Act.put, List.setIfInBounds_toArray, List.set_cons_zero, List.set_cons_succ, List.getElem_toArray, List.getElem_cons_succ, List.getElem_cons_zero]
                refine take_S (v := ?v13f0) 13 rfl (by kernel_rfl) (by kernel_rfl) (by kernel_rfl) (by kernel_rfl) (fun _ _ _ h => h) hS (fun _ => trivial) rfl (fun w' hq => ?h13f0) ?_
                case h13f0 => go_simp; try with_reducible rfl
                try simp only [Act.put, List.setIfInBounds_toArray, List.set_cons_zero, List.set_cons_succ, List.getElem_toArray, List.getElem_cons_succ, List.getElem_cons_zero]
                refine done_D (by kernel_rfl) ?_ _
                clear hS
                go_wp2_with fail
                go_roundw
                case rel => exact ⟨1, by omega, by go_num, Lib.hid ⟨HB3.out, HN2.out⟩⟩
                case measure => simp [intOf]
              | true =>
                obtain ⟨m, rfl⟩ : ∃ m : Nat, cc = m := ⟨cc.toNat, by have := mayC_iff hm; omega⟩
                have hm4 : m ≤ 1114111 := by have := mayC_iff hm; omega
                have Hm := Lib.hid hm
                clear hm
                refine take_S (v := ?v3t0) 3 rfl (by kernel_rfl) (by kernel_rfl) (by kernel_rfl) (by kernel_rfl) (fun _ _ _ h => h) hS (fun _ => trivial) rfl (fun w' hq => ?h3t0) ?_
                case h3t0 => go_simp; try with_reducible rfl
                try simp only [Act.put, List.setIfInBounds_toArray, List.set_cons_zero, List.set_cons_succ, List.getElem_toArray, List.getElem_cons_succ, List.getElem_cons_zero]
                refine take_S (v := ?v4t0) 4 rfl (by kernel_rfl) (by kernel_rfl) (by kernel_rfl) (by kernel_rfl) (fun _ _ _ h => h) hS (fun _ => trivial) rfl (fun w' hq => ?h4t0) ?_
                case h4t0 => go_simp; try with_reducible rfl
                try simp only [Act.put, List.setIfInBounds_toArray, List.set_cons_zero, List.set_cons_succ, List.getElem_toArray, List.getElem_cons_succ, List.getElem_cons_zero]
                refine take_S (v := ?v5t0) 5 rfl (by kernel_rfl) (by kernel_rfl) (by kernel_rfl) (by kernel_rfl) (fun _ _ _ h => h) hS (fun _ => trivial) rfl (fun w' hq => ?h5t0) ?_
                case h5t0 => go_simp; try with_reducible rfl
                try simp only [Act.put, List.setIfInBounds_toArray, List.set_cons_zero, List.set_cons_succ, List.getElem_toArray, List.getElem_cons_succ, List.getElem_cons_zero]
                refine take_S (v := ?v8t0) 8 rfl (by kernel_rfl) (by kernel_rfl) (by kernel_rfl) (by kernel_rfl) (fun _ _ _ h => h) hS (fun _ => trivial) rfl (fun w' hq => ?h8t0) ?_
                case h8t0 => go_simp; try with_reducible rfl
                try simp only [Act.put, List.setIfInBounds_toArray, List.set_cons_zero, List.set_cons_succ, List.getElem_toArray, List.getElem_cons_succ, List.getElem_cons_zero]
                refine take_S (v := ?v9t0) 9 rfl (by kernel_rfl) (by kernel_rfl) (by kernel_rfl) (by kernel_rfl) (fun _ _ _ h => h) hS (fun _ => trivial) rfl (fun w' hq => ?h9t0) ?_
                case h9t0 => go_simp; try with_reducible rfl
                try simp only [Act.put, List.setIfInBounds_toArray, List.set_cons_zero, List.set_cons_succ, List.getElem_toArray, List.getElem_cons_succ, List.getElem_cons_zero]
                refine take_S (v := ?v10t0) 10 rfl (by kernel_rfl) (by kernel_rfl) (by kernel_rfl) (by kernel_rfl) (fun _ _ _ h => h) hS (fun _ => trivial) rfl (fun w' hq => ?h10t0) ?_
                case h10t0 => go_simp; try with_reducible rfl
                try simp only [Act.put, List.setIfInBounds_toArray, List.set_cons_zero, List.set_cons_succ, List.getElem_toArray, List.getElem_cons_succ, List.getElem_cons_zero]
                refine take_S (v := .string ⟨(b.take 1).toArray⟩) 11 rfl (by kernel_rfl) (by kernel_rfl) (by kernel_rfl) (by kernel_rfl) (fun _ _ _ h => h) hS (fun _ => trivial) rfl (fun w' hq => ?hs11) ?_
                case hs11 =>
                  obtain ⟨S', hq'⟩ := hq
                  have kc := str_of hq' (by rw [List.length_take]; omega)
                  clear hq' hS
                  go_simp
                try simp only [Act.put, List.setIfInBounds_toArray, List.set_cons_zero, List.set_cons_succ, List.getElem_toArray, List.getElem_cons_succ, List.getElem_cons_zero]
                refine one_D 6 rfl (by kernel_rfl) (fun KQ hK => ?_)
                go_simp
                clear wcc
                refine (ref04_one hm4).mono ?_
                rintro _ w2 ⟨q, d, rfl, ho, hb⟩
                obtain ⟨S0, hS0⟩ := hS
                have hS2 : Rst (some ⟨g, off, none⟩) 1 c (b.take 1) w2 := ⟨S0, Rd.below hS0 (by decide) hb⟩
                have HB4 := Lib.hid (HB3.out.trans (hb.mono HB3.out.size))
                have kc := str_of ho rfl
                refine hK.out _ _ hS2 (fun _ => trivial) ?_
                clear hK hS0
                try simp only [Act.put, List.setIfInBounds_toArray, List.set_cons_zero, List.set_cons_succ, List.getElem_toArray, List.getElem_cons_succ, List.getElem_cons_zero]
                refine one_D 7 rfl (by kernel_rfl) (fun KQ hK => ?_)
                go_simp
                refine hK.out _ _ hS2 (fun _ => trivial) ?_
                clear hK kc
                try simp only [Act.put, List.setIfInBounds_toArray, List.set_cons_zero, List.set_cons_succ, List.getElem_toArray, List.getElem_cons_succ, List.getElem_cons_zero]
                refine one_D 12 rfl (by kernel_rfl) (fun KQ hK => ?_)
                go_simp
                cases heq : (oneB (m : Int) == List.take 1 b) with
                | false =>
                  have HN2 := Lib.hid (none_of (k := 0) (fun h => by have := (Hat.out.1 h).2; rw [Ers.out, Hcc.out] at this; rw [this] at heq; simp at heq) HN.out)
                  clear heq
                  refine hK.out _ _ hS2 (fun _ => trivial) ?_
                  clear hK
                  try simp only [Act.put, List.setIfInBounds_toArray, List.set_cons_zero, List.set_cons_succ, List.getElem_toArray, List.getElem_cons_succ, List.getElem_cons_zero]
                  refine take_S (v := ?v13u0) 13 rfl (by kernel_rfl) (by kernel_rfl) (by kernel_rfl) (by kernel_rfl) (fun _ _ _ h => h) hS2 (fun _ => trivial) rfl (fun w' hq => ?h13u0) ?_
                  case h13u0 => go_simp; try with_reducible rfl
                  try simp only [Act.put, List.setIfInBounds_toArray, List.set_cons_zero, List.set_cons_succ, List.getElem_toArray, List.getElem_cons_succ, List.getElem_cons_zero]
                  refine done_D (by kernel_rfl) ?_ _
                  clear hS2
                  go_wp2_with fail
                  go_roundw
                  case rel => exact ⟨1, by omega, by go_num, Lib.hid ⟨HB4.out, HN2.out⟩⟩
                  case measure => simp [intOf]
                | true =>
                  obtain rfl : r = 1 := by
                    rw [← Hr.out]
                    exact firstB_at' hlen HN.out (Hat.out.2 (by rw [Ers.out, Hcc.out]; exact ⟨Hm.out, by simpa using heq⟩))
                  clear heq
                  refine hK.out _ _ hS2 (fun _ => trivial) ?_
                  clear hK
                  try simp only [Act.put, List.setIfInBounds_toArray, List.set_cons_zero, List.set_cons_succ, List.getElem_toArray, List.getElem_cons_succ, List.getElem_cons_zero]
                  refine take_S (v := ?v13v0) 13 rfl (by kernel_rfl) (by kernel_rfl) (by kernel_rfl) (by kernel_rfl) (fun _ _ _ h => h) hS2 (fun _ => trivial) rfl (fun w' hq => ?h13v0) ?_
                  case h13v0 => go_simp; try with_reducible rfl
                  try simp only [Act.put, List.setIfInBounds_toArray, List.set_cons_zero, List.set_cons_succ, List.getElem_toArray, List.getElem_cons_succ, List.getElem_cons_zero]
                  refine done_D (by kernel_rfl) ?_ _
                  clear hS2
                  go_wp2_with fail
                  go_ret2
                  exact ⟨⟨_, rfl⟩, HB4.out⟩
        · have dl : decide ((1 : Int) + 1 ≤ (b.length : Int)) = true := by simp; omega
          have hkl2 : 1 < b.length := by omega
          have hkc : (2 : Int) ≤ (c : Int) := by omega
          clear hk hkl
          obtain ⟨s, hs⟩ : ∃ x : Int, x = y0 - 192 := ⟨_, rfl⟩
          have hs2 : -255 ≤ s ∧ s ≤ 255 := by omega
          have Hs2 := Lib.hid hs2
          have Hs := Lib.hid hs
          clear hs hs2
          go_wp2_with fail
          rw [← Hs.out]
          obtain ⟨w1, hw1⟩ : ∃ x, x = wr := ⟨_, rfl⟩
          subst hw1
          go_loopw [5, 6] (fun cv iv wr => ∃ i : Nat, 1 ≤ i ∧ i ≤ 2 ∧ iv = .int .i64 i ∧ cv = .int .i64 (rF b s i) ∧ Hid (Below w1.heap.size w1 wr)) (fun _ iv _ => 2 - (intOf iv).toNat)
          case atStart => exact ⟨1, by omega, by omega, rfl, rfl, Lib.hid (Below.refl _ _)⟩
          case round =>
            obtain ⟨i, hi1, hi4, rfl, rfl, hQ⟩ := hrel
            have HB2 := Lib.hid (HB.out.trans (hQ.out.mono HB.out.size))
            have HQ := Lib.hid hQ.out
            clear hQ
            have hcb := rF_bound (b := b) (i := i) Hs2.out.1 Hs2.out.2 (by omega)
            by_cases hin : i < 2
            · obtain ⟨xi, hxi⟩ : ∃ x : Int, (b[i].toNat : Int) = x := ⟨_, rfl⟩
              have ei : wr.cell? ⟨g, off + i, none⟩ = some (.int .u8 xi) := by
                have := HC.out wr HB2.out i (by omega)
                rw [hxi] at this
                exact this
              have hxb : 0 ≤ xi ∧ xi ≤ 255 := by have := b[i].toNat_lt; omega
              have Hsu := Lib.hid (show rF b s (i + 1) = 64 * rF b s i + xi - 128 by rw [rF_succ hi1 (by omega), hxi])
              have hil : (i : Int) < (b.length : Int) := by omega
              obtain ⟨hxa, hxc⟩ := hxb
              obtain ⟨hca, hcc⟩ := hcb
              generalize rF b s i = cc at *
              clear hxi e0 dl
              go_wp2_with fail
              go_roundw
              case rel => exact ⟨i + 1, by omega, by omega, by go_num, by rw [Hsu.out], HQ⟩
              case measure => simp [intOf]; omega
            · obtain rfl : i = 2 := by omega
              have Hat := Lib.hid (at_ref (k := 1) (by decide) hkl2)
              have Ers := Lib.hid (show rstart (b[0].toNat : Int) (1 + 1) = s by rw [Hs.out, Hy0.out]; rfl)
              obtain ⟨cc, hcc⟩ : ∃ x, rF b s 2 = x := ⟨_, rfl⟩
              rw [hcc] at hcb
              have Hcc := Lib.hid hcc
              rw [hcc]
              obtain ⟨hca, hcd⟩ := hcb
              clear hcc e0 dl hin hi1 hi4
              have hrd := Lib.hid (CmdRd.front (Rd.below H.out (by decide) HB2.out) (show 2 ≤ b.length from hkl2))
              go_upto_region 15 with fail
              have hS : Rst (some ⟨g, off, none⟩) 2 c (b.take 2) wr.drew := ⟨_, hrd.out⟩
              have HB3 := Lib.hid HB2.out.drew
              have wcc : IntKind.i32.wrap cc = cc := wrapI (by omega) (by omega)
              clear hrd HB2 HB
              refine begin_D (S := Rst (some ⟨g, off, none⟩) 2 c (b.take 2)) (T := Hold0) [] (by kernel_rfl) hS (fun _ => trivial) ?_
              generalize wr.drew = V1 at *
              refine take_S (v := ?v0k1) 0 rfl (by kernel_rfl) (by kernel_rfl) (by kernel_rfl) (by kernel_rfl) (fun _ _ _ h => h) hS (fun _ => trivial) rfl (fun w' hq => ?h0k1) ?_
              case h0k1 => go_simp; try with_reducible rfl
              try simp only [Act.put, List.setIfInBounds_toArray, List.set_cons_zero, List.set_cons_succ, List.getElem_toArray, List.getElem_cons_succ, List.getElem_cons_zero]
              refine take_S (v := ?v1k1) 1 rfl (by kernel_rfl) (by kernel_rfl) (by kernel_rfl) (by kernel_rfl) (fun _ _ _ h => h) hS (fun _ => trivial) rfl (fun w' hq => ?h1k1) ?_
              case h1k1 => go_simp; try with_reducible rfl
              try simp only [Act.put, List.setIfInBounds_toArray, List.set_cons_zero, List.set_cons_succ, List.getElem_toArray, List.getElem_cons_succ, List.getElem_cons_zero]
              refine one_D 2 rfl (by kernel_rfl) (fun KQ hK => ?_)
              go_simp
              refine ref04_May.mono ?_
              rintro _ _ ⟨rfl, rfl⟩
              refine hK.out _ _ hS (fun _ => trivial) ?_
              clear hK
              try simp only [Act.put, List.setIfInBounds_toArray, List.set_cons_zero, List.set_cons_succ, List.getElem_toArray, List.getElem_cons_succ, List.getElem_cons_zero]
              try rw [wcc]
              cases hm : mayC cc with
              | false =>
                have HN2 := Lib.hid (none_of (k := 1) (fun h => by have := (Hat.out.1 h).1; rw [Ers.out, Hcc.out, hm] at this; cases this) HN.out)
                clear hm wcc
                refine take_S (v := ?v3f1) 3 rfl (by kernel_rfl) (by kernel_rfl) (by kernel_rfl) (by kernel_rfl) (fun _ _ _ h => h) hS (fun _ => trivial) rfl (fun w' hq => ?h3f1) ?_
                case h3f1 => go_simp; try with_reducible rfl
                try simp only [Act.put, List.setIfInBounds_toArray, List.set_cons_zero, List.set_cons_succ, List.getElem_toArray, List.getElem_cons_succ, List.getElem_cons_zero]
                refine take_no 4 rfl (by kernel_rfl) (by kernel_rfl) (by kernel_rfl) (by kernel_rfl) (fun _ _ _ h => h) hS (fun _ => trivial) rfl ?_
                try simp only [Act.put, List.setIfInBounds_toArray, List.set_cons_zero, List.set_cons_succ, List.getElem_toArray, List.getElem_cons_succ, List.getElem_cons_zero]
                refine take_no 5 rfl (by kernel_rfl) (by kernel_rfl) (by kernel_rfl) (by kernel_rfl) (fun _ _ _ h => h) hS (fun _ => trivial) rfl ?_
                try simp only [Act.put, List.setIfInBounds_toArray, List.set_cons_zero, List.set_cons_succ, List.getElem_toArray, List.getElem_cons_succ, List.getElem_cons_zero]
                refine take_no 6 rfl (by kernel_rfl) (by kernel_rfl) (by kernel_rfl) (by kernel_rfl) (fun _ _ _ h => h) hS (fun _ => trivial) rfl ?_
                try simp only [Act.put, List.setIfInBounds_toArray, List.set_cons_zero, List.set_cons_succ, List.getElem_toArray, List.getElem_cons_succ, List.getElem_cons_zero]
                refine take_no 7 rfl (by kernel_rfl) (by kernel_rfl) (by kernel_rfl) (by kernel_rfl) (fun _ _ _ h => h) hS (fun _ => trivial) rfl ?_
                try simp only [Act.put, List.setIfInBounds_toArray, List.set_cons_zero, List.set_cons_succ, List.getElem_toArray, List.getElem_cons_succ, List.getElem_cons_zero]
                refine take_no 8 rfl (by kernel_rfl) (by kernel_rfl) (by kernel_rfl) (by kernel_rfl) (fun _ _ _ h => h) hS (fun _ => trivial) rfl ?_
                try simp only [Act.put, List.setIfInBounds_toArray, List.set_cons_zero, List.set_cons_succ, List.getElem_toArray, List.getElem_cons_succ, List.getElem_cons_zero]
                refine take_no 9 rfl (by kernel_rfl) (by kernel_rfl) (by kernel_rfl) (by kernel_rfl) (fun _ _ _ h => h) hS (fun _ => trivial) rfl ?_
                try simp only [Act.put, List.setIfInBounds_toArray, List.set_cons_zero, List.set_cons_succ, List.getElem_toArray, List.getElem_cons_succ, List.getElem_cons_zero]
                refine take_no 10 rfl (by kernel_rfl) (by kernel_rfl) (by kernel_rfl) (by kernel_rfl) (fun _ _ _ h => h) hS (fun _ => trivial) rfl ?_
                try simp only [Act.put, List.setIfInBounds_toArray, List.set_cons_zero, List.set_cons_succ, List.getElem_toArray, List.getElem_cons_succ, List.getElem_cons_zero]
                refine take_no 11 rfl (by kernel_rfl) (by kernel_rfl) (by kernel_rfl) (by kernel_rfl) (fun _ _ _ h => h) hS (fun _ => trivial) rfl ?_
                try simp only [Act.put, List.setIfInBounds_toArray, List.set_cons_zero, List.set_cons_succ, List.getElem_toArray, List.getElem_cons_succ, List.getElem_cons_zero]
                refine take_no 12 rfl (by kernel_rfl) (by kernel_rfl) (by kernel_rfl) (by kernel_rfl) (fun _ _ _ h => h) hS (fun _ => trivial) rfl ?_
                try simp only [Act.put, List.setIfInBounds_toArray, List.set_cons_zero, List.set_cons_succ, List.getElem_toArray, List.getElem_cons_succ, List.getElem_cons_zero]
                refine take_S (v := ?v13f1) 13 rfl (by kernel_rfl) (by kernel_rfl) (by kernel_rfl) (by kernel_rfl) (fun _ _ _ h => h) hS (fun _ => trivial) rfl (fun w' hq => ?h13f1) ?_
                case h13f1 => go_simp; try with_reducible rfl
                try simp only [Act.put, List.setIfInBounds_toArray, List.set_cons_zero, List.set_cons_succ, List.getElem_toArray, List.getElem_cons_succ, List.getElem_cons_zero]
                refine done_D (by kernel_rfl) ?_ _
                clear hS
                go_wp2_with fail
                go_roundw
                case rel => exact ⟨2, by omega, by go_num, Lib.hid ⟨HB3.out, HN2.out⟩⟩
                case measure => simp [intOf]
              | true =>
                obtain ⟨m, rfl⟩ : ∃ m : Nat, cc = m := ⟨cc.toNat, by have := mayC_iff hm; omega⟩
                have hm4 : m ≤ 1114111 := by have := mayC_iff hm; omega
                have Hm := Lib.hid hm
                clear hm
                refine take_S (v := ?v3t1) 3 rfl (by kernel_rfl) (by kernel_rfl) (by kernel_rfl) (by kernel_rfl) (fun _ _ _ h => h) hS (fun _ => trivial) rfl (fun w' hq => ?h3t1) ?_
                case h3t1 => go_simp; try with_reducible rfl
                try simp only [Act.put, List.setIfInBounds_toArray, List.set_cons_zero, List.set_cons_succ, List.getElem_toArray, List.getElem_cons_succ, List.getElem_cons_zero]
                refine take_S (v := ?v4t1) 4 rfl (by kernel_rfl) (by kernel_rfl) (by kernel_rfl) (by kernel_rfl) (fun _ _ _ h => h) hS (fun _ => trivial) rfl (fun w' hq => ?h4t1) ?_
                case h4t1 => go_simp; try with_reducible rfl
                try simp only [Act.put, List.setIfInBounds_toArray, List.set_cons_zero, List.set_cons_succ, List.getElem_toArray, List.getElem_cons_succ, List.getElem_cons_zero]
                refine take_S (v := ?v5t1) 5 rfl (by kernel_rfl) (by kernel_rfl) (by kernel_rfl) (by kernel_rfl) (fun _ _ _ h => h) hS (fun _ => trivial) rfl (fun w' hq => ?h5t1) ?_
                case h5t1 => go_simp; try with_reducible rfl
                try simp only [Act.put, List.setIfInBounds_toArray, List.set_cons_zero, List.set_cons_succ, List.getElem_toArray, List.getElem_cons_succ, List.getElem_cons_zero]
                refine take_S (v := ?v8t1) 8 rfl (by kernel_rfl) (by kernel_rfl) (by kernel_rfl) (by kernel_rfl) (fun _ _ _ h => h) hS (fun _ => trivial) rfl (fun w' hq => ?h8t1) ?_
                case h8t1 => go_simp; try with_reducible rfl
                try simp only [Act.put, List.setIfInBounds_toArray, List.set_cons_zero, List.set_cons_succ, List.getElem_toArray, List.getElem_cons_succ, List.getElem_cons_zero]
                refine take_S (v := ?v9t1) 9 rfl (by kernel_rfl) (by kernel_rfl) (by kernel_rfl) (by kernel_rfl) (fun _ _ _ h => h) hS (fun _ => trivial) rfl (fun w' hq => ?h9t1) ?_
                case h9t1 => go_simp; try with_reducible rfl
                try simp only [Act.put, List.setIfInBounds_toArray, List.set_cons_zero, List.set_cons_succ, List.getElem_toArray, List.getElem_cons_succ, List.getElem_cons_zero]
                refine take_S (v := ?v10t1) 10 rfl (by kernel_rfl) (by kernel_rfl) (by kernel_rfl) (by kernel_rfl) (fun _ _ _ h => h) hS (fun _ => trivial) rfl (fun w' hq => ?h10t1) ?_
                case h10t1 => go_simp; try with_reducible rfl
                try simp only [Act.put, List.setIfInBounds_toArray, List.set_cons_zero, List.set_cons_succ, List.getElem_toArray, List.getElem_cons_succ, List.getElem_cons_zero]
                refine take_S (v := .string ⟨(b.take 2).toArray⟩) 11 rfl (by kernel_rfl) (by kernel_rfl) (by kernel_rfl) (by kernel_rfl) (fun _ _ _ h => h) hS (fun _ => trivial) rfl (fun w' hq => ?hs11) ?_
                case hs11 =>
                  obtain ⟨S', hq'⟩ := hq
                  have kc := str_of hq' (by rw [List.length_take]; omega)
                  clear hq' hS
                  go_simp
                try simp only [Act.put, List.setIfInBounds_toArray, List.set_cons_zero, List.set_cons_succ, List.getElem_toArray, List.getElem_cons_succ, List.getElem_cons_zero]
                refine one_D 6 rfl (by kernel_rfl) (fun KQ hK => ?_)
                go_simp
                clear wcc
                refine (ref04_one hm4).mono ?_
                rintro _ w2 ⟨q, d, rfl, ho, hb⟩
                obtain ⟨S0, hS0⟩ := hS
                have hS2 : Rst (some ⟨g, off, none⟩) 2 c (b.take 2) w2 := ⟨S0, Rd.below hS0 (by decide) hb⟩
                have HB4 := Lib.hid (HB3.out.trans (hb.mono HB3.out.size))
                have kc := str_of ho rfl
                refine hK.out _ _ hS2 (fun _ => trivial) ?_
                clear hK hS0
                try simp only [Act.put, List.setIfInBounds_toArray, List.set_cons_zero, List.set_cons_succ, List.getElem_toArray, List.getElem_cons_succ, List.getElem_cons_zero]
                refine one_D 7 rfl (by kernel_rfl) (fun KQ hK => ?_)
                go_simp
                refine hK.out _ _ hS2 (fun _ => trivial) ?_
                clear hK kc
                try simp only [Act.put, List.setIfInBounds_toArray, List.set_cons_zero, List.set_cons_succ, List.getElem_toArray, List.getElem_cons_succ, List.getElem_cons_zero]
                refine one_D 12 rfl (by kernel_rfl) (fun KQ hK => ?_)
                go_simp
                cases heq : (oneB (m : Int) == List.take 2 b) with
                | false =>
                  have HN2 := Lib.hid (none_of (k := 1) (fun h => by have := (Hat.out.1 h).2; rw [Ers.out, Hcc.out] at this; rw [this] at heq; simp at heq) HN.out)
                  clear heq
                  refine hK.out _ _ hS2 (fun _ => trivial) ?_
                  clear hK
                  try simp only [Act.put, List.setIfInBounds_toArray, List.set_cons_zero, List.set_cons_succ, List.getElem_toArray, List.getElem_cons_succ, List.getElem_cons_zero]
                  refine take_S (v := ?v13u1) 13 rfl (by kernel_rfl) (by kernel_rfl) (by kernel_rfl) (by kernel_rfl) (fun _ _ _ h => h) hS2 (fun _ => trivial) rfl (fun w' hq => ?h13u1) ?_
                  case h13u1 => go_simp; try with_reducible rfl
                  try simp only [Act.put, List.setIfInBounds_toArray, List.set_cons_zero, List.set_cons_succ, List.getElem_toArray, List.getElem_cons_succ, List.getElem_cons_zero]
                  refine done_D (by kernel_rfl) ?_ _
                  clear hS2
                  go_wp2_with fail
                  go_roundw
                  case rel => exact ⟨2, by omega, by go_num, Lib.hid ⟨HB4.out, HN2.out⟩⟩
                  case measure => simp [intOf]
                | true =>
                  obtain rfl : r = 2 := by
                    rw [← Hr.out]
                    exact firstB_at' hlen HN.out (Hat.out.2 (by rw [Ers.out, Hcc.out]; exact ⟨Hm.out, by simpa using heq⟩))
                  clear heq
                  refine hK.out _ _ hS2 (fun _ => trivial) ?_
                  clear hK
                  try simp only [Act.put, List.setIfInBounds_toArray, List.set_cons_zero, List.set_cons_succ, List.getElem_toArray, List.getElem_cons_succ, List.getElem_cons_zero]
                  refine take_S (v := ?v13v1) 13 rfl (by kernel_rfl) (by kernel_rfl) (by kernel_rfl) (by kernel_rfl) (fun _ _ _ h => h) hS2 (fun _ => trivial) rfl (fun w' hq => ?h13v1) ?_
                  case h13v1 => go_simp; try with_reducible rfl
                  try simp only [Act.put, List.setIfInBounds_toArray, List.set_cons_zero, List.set_cons_succ, List.getElem_toArray, List.getElem_cons_succ, List.getElem_cons_zero]
                  refine done_D (by kernel_rfl) ?_ _
                  clear hS2
                  go_wp2_with fail
                  go_ret2
                  exact ⟨⟨_, rfl⟩, HB4.out⟩
        · have dl : decide ((2 : Int) + 1 ≤ (b.length : Int)) = true := by simp; omega
          have hkl2 : 2 < b.length := by omega
          have hkc : (3 : Int) ≤ (c : Int) := by omega
          clear hk hkl
          obtain ⟨s, hs⟩ : ∃ x : Int, x = y0 - 224 := ⟨_, rfl⟩
          have hs2 : -255 ≤ s ∧ s ≤ 255 := by omega
          have Hs2 := Lib.hid hs2
          have Hs := Lib.hid hs
          clear hs hs2
          go_wp2_with fail
          rw [← Hs.out]
          obtain ⟨w1, hw1⟩ : ∃ x, x = wr := ⟨_, rfl⟩
          subst hw1
          go_loopw [5, 6] (fun cv iv wr => ∃ i : Nat, 1 ≤ i ∧ i ≤ 3 ∧ iv = .int .i64 i ∧ cv = .int .i64 (rF b s i) ∧ Hid (Below w1.heap.size w1 wr)) (fun _ iv _ => 3 - (intOf iv).toNat)
          case atStart => exact ⟨1, by omega, by omega, rfl, rfl, Lib.hid (Below.refl _ _)⟩
          case round =>
            obtain ⟨i, hi1, hi4, rfl, rfl, hQ⟩ := hrel
            have HB2 := Lib.hid (HB.out.trans (hQ.out.mono HB.out.size))
            have HQ := Lib.hid hQ.out
            clear hQ
            have hcb := rF_bound (b := b) (i := i) Hs2.out.1 Hs2.out.2 (by omega)
            by_cases hin : i < 3
            · obtain ⟨xi, hxi⟩ : ∃ x : Int, (b[i].toNat : Int) = x := ⟨_, rfl⟩
              have ei : wr.cell? ⟨g, off + i, none⟩ = some (.int .u8 xi) := by
                have := HC.out wr HB2.out i (by omega)
                rw [hxi] at this
                exact this
              have hxb : 0 ≤ xi ∧ xi ≤ 255 := by have := b[i].toNat_lt; omega
              have Hsu := Lib.hid (show rF b s (i + 1) = 64 * rF b s i + xi - 128 by rw [rF_succ hi1 (by omega), hxi])
              have hil : (i : Int) < (b.length : Int) := by omega
              obtain ⟨hxa, hxc⟩ := hxb
              obtain ⟨hca, hcc⟩ := hcb
              generalize rF b s i = cc at *
              clear hxi e0 dl
              go_wp2_with fail
              go_roundw
              case rel => exact ⟨i + 1, by omega, by omega, by go_num, by rw [Hsu.out], HQ⟩
              case measure => simp [intOf]; omega
            · obtain rfl : i = 3 := by omega
              have Hat := Lib.hid (at_ref (k := 2) (by decide) hkl2)
              have Ers := Lib.hid (show rstart (b[0].toNat : Int) (2 + 1) = s by rw [Hs.out, Hy0.out]; rfl)
              obtain ⟨cc, hcc⟩ : ∃ x, rF b s 3 = x := ⟨_, rfl⟩
              rw [hcc] at hcb
              have Hcc := Lib.hid hcc
              rw [hcc]
              obtain ⟨hca, hcd⟩ := hcb
              clear hcc e0 dl hin hi1 hi4
              have hrd := Lib.hid (CmdRd.front (Rd.below H.out (by decide) HB2.out) (show 3 ≤ b.length from hkl2))
              go_upto_region 15 with fail
              have hS : Rst (some ⟨g, off, none⟩) 3 c (b.take 3) wr.drew := ⟨_, hrd.out⟩
              have HB3 := Lib.hid HB2.out.drew
              have wcc : IntKind.i32.wrap cc = cc := wrapI (by omega) (by omega)
              clear hrd HB2 HB
              refine begin_D (S := Rst (some ⟨g, off, none⟩) 3 c (b.take 3)) (T := Hold0) [] (by kernel_rfl) hS (fun _ => trivial) ?_
              generalize wr.drew = V1 at *
              refine take_S (v := ?v0k2) 0 rfl (by kernel_rfl) (by kernel_rfl) (by kernel_rfl) (by kernel_rfl) (fun _ _ _ h => h) hS (fun _ => trivial) rfl (fun w' hq => ?h0k2) ?_
              case h0k2 => go_simp; try with_reducible rfl
              try simp only [Act.put, List.setIfInBounds_toArray, List.set_cons_zero, List.set_cons_succ, List.getElem_toArray, List.getElem_cons_succ, List.getElem_cons_zero]
              refine take_S (v := ?v1k2) 1 rfl (by kernel_rfl) (by kernel_rfl) (by kernel_rfl) (by kernel_rfl) (fun _ _ _ h => h) hS (fun _ => trivial) rfl (fun w' hq => ?h1k2) ?_
              case h1k2 => go_simp; try with_reducible rfl
              try simp only [Act.put, List.setIfInBounds_toArray, List.set_cons_zero, List.set_cons_succ, List.getElem_toArray, List.getElem_cons_succ, List.getElem_cons_zero]
              refine one_D 2 rfl (by kernel_rfl) (fun KQ hK => ?_)
              go_simp
              refine ref04_May.mono ?_
              rintro _ _ ⟨rfl, rfl⟩
              refine hK.out _ _ hS (fun _ => trivial) ?_
              clear hK
              try simp only [Act.put, List.setIfInBounds_toArray, List.set_cons_zero, List.set_cons_succ, List.getElem_toArray, List.getElem_cons_succ, List.getElem_cons_zero]
              try rw [wcc]
              cases hm : mayC cc with
              | false =>
                have HN2 := Lib.hid (none_of (k := 2) (fun h => by have := (Hat.out.1 h).1; rw [Ers.out, Hcc.out, hm] at this; cases this) HN.out)
                clear hm wcc
                refine take_S (v := ?v3f2) 3 rfl (by kernel_rfl) (by kernel_rfl) (by kernel_rfl) (by kernel_rfl) (fun _ _ _ h => h) hS (fun _ => trivial) rfl (fun w' hq => ?h3f2) ?_
                case h3f2 => go_simp; try with_reducible rfl
                try simp only [Act.put, List.setIfInBounds_toArray, List.set_cons_zero, List.set_cons_succ, List.getElem_toArray, List.getElem_cons_succ, List.getElem_cons_zero]
                refine take_no 4 rfl (by kernel_rfl) (by kernel_rfl) (by kernel_rfl) (by kernel_rfl) (fun _ _ _ h => h) hS (fun _ => trivial) rfl ?_
                try simp only [Act.put, List.setIfInBounds_toArray, List.set_cons_zero, List.set_cons_succ, List.getElem_toArray, List.getElem_cons_succ, List.getElem_cons_zero]
                refine take_no 5 rfl (by kernel_rfl) (by kernel_rfl) (by kernel_rfl) (by kernel_rfl) (fun _ _ _ h => h) hS (fun _ => trivial) rfl ?_
                try simp only [Act.put, List.setIfInBounds_toArray, List.set_cons_zero, List.set_cons_succ, List.getElem_toArray, List.getElem_cons_succ, List.getElem_cons_zero]
                refine take_no 6 rfl (by kernel_rfl) (by kernel_rfl) (by kernel_rfl) (by kernel_rfl) (fun _ _ _ h => h) hS (fun _ => trivial) rfl ?_
                try simp only [Act.put, List.setIfInBounds_toArray, List.set_cons_zero, List.set_cons_succ, List.getElem_toArray, List.getElem_cons_succ, List.getElem_cons_zero]
                refine take_no 7 rfl (by kernel_rfl) (by kernel_rfl) (by kernel_rfl) (by kernel_rfl) (fun _ _ _ h => h) hS (fun _ => trivial) rfl ?_
                try simp only [Act.put, List.setIfInBounds_toArray, List.set_cons_zero, List.set_cons_succ, List.getElem_toArray, List.getElem_cons_succ, List.getElem_cons_zero]
                refine take_no 8 rfl (by kernel_rfl) (by kernel_rfl) (by kernel_rfl) (by kernel_rfl) (fun _ _ _ h => h) hS (fun _ => trivial) rfl ?_
                try simp only [Act.put, List.setIfInBounds_toArray, List.set_cons_zero, List.set_cons_succ, List.getElem_toArray, List.getElem_cons_succ, List.getElem_cons_zero]
                refine take_no 9 rfl (by kernel_rfl) (by kernel_rfl) (by kernel_rfl) (by kernel_rfl) (fun _ _ _ h => h) hS (fun _ => trivial) rfl ?_
                try simp only [Act.put, List.setIfInBounds_toArray, List.set_cons_zero, List.set_cons_succ, List.getElem_toArray, List.getElem_cons_succ, List.getElem_cons_zero]
                refine take_no 10 rfl (by kernel_rfl) (by kernel_rfl) (by kernel_rfl) (by kernel_rfl) (fun _ _ _ h => h) hS (fun _ => trivial) rfl ?_
                try simp only [Act.put, List.setIfInBounds_toArray, List.set_cons_zero, List.set_cons_succ, List.getElem_toArray, List.getElem_cons_succ, List.getElem_cons_zero]
                refine take_no 11 rfl (by kernel_rfl) (by kernel_rfl) (by kernel_rfl) (by kernel_rfl) (fun _ _ _ h => h) hS (fun _ => trivial) rfl ?_
                try simp only [Act.put, List.setIfInBounds_toArray, List.set_cons_zero, List.set_cons_succ, List.getElem_toArray, List.getElem_cons_succ, List.getElem_cons_zero]
                refine take_no 12 rfl (by kernel_rfl) (by kernel_rfl) (by kernel_rfl) (by kernel_rfl) (fun _ _ _ h => h) hS (fun _ => trivial) rfl ?_
                try simp only [Act.put, List.setIfInBounds_toArray, List.set_cons_zero, List.set_cons_succ, List.getElem_toArray, List.getElem_cons_succ, List.getElem_cons_zero]
                refine take_S (v := ?v13f2) 13 rfl (by kernel_rfl) (by kernel_rfl) (by kernel_rfl) (by kernel_rfl) (fun _ _ _ h => h) hS (fun _ => trivial) rfl (fun w' hq => ?h13f2) ?_
                case h13f2 => go_simp; try with_reducible rfl
                try simp only [Act.put, List.setIfInBounds_toArray, List.set_cons_zero, List.set_cons_succ, List.getElem_toArray, List.getElem_cons_succ, List.getElem_cons_zero]
                refine done_D (by kernel_rfl) ?_ _
                clear hS
                go_wp2_with fail
                go_roundw
                case rel => exact ⟨3, by omega, by go_num, Lib.hid ⟨HB3.out, HN2.out⟩⟩
                case measure => simp [intOf]
              | true =>
                obtain ⟨m, rfl⟩ : ∃ m : Nat, cc = m := ⟨cc.toNat, by have := mayC_iff hm; omega⟩
                have hm4 : m ≤ 1114111 := by have := mayC_iff hm; omega
                have Hm := Lib.hid hm
                clear hm
                refine take_S (v := ?v3t2) 3 rfl (by kernel_rfl) (by kernel_rfl) (by kernel_rfl) (by kernel_rfl) (fun _ _ _ h => h) hS (fun _ => trivial) rfl (fun w' hq => ?h3t2) ?_
                case h3t2 => go_simp; try with_reducible rfl
                try simp only [Act.put, List.setIfInBounds_toArray, List.set_cons_zero, List.set_cons_succ, List.getElem_toArray, List.getElem_cons_succ, List.getElem_cons_zero]
                refine take_S (v := ?v4t2) 4 rfl (by kernel_rfl) (by kernel_rfl) (by kernel_rfl) (by kernel_rfl) (fun _ _ _ h => h) hS (fun _ => trivial) rfl (fun w' hq => ?h4t2) ?_
                case h4t2 => go_simp; try with_reducible rfl
                try simp only [Act.put, List.setIfInBounds_toArray, List.set_cons_zero, List.set_cons_succ, List.getElem_toArray, List.getElem_cons_succ, List.getElem_cons_zero]
                refine take_S (v := ?v5t2) 5 rfl (by kernel_rfl) (by kernel_rfl) (by kernel_rfl) (by kernel_rfl) (fun _ _ _ h => h) hS (fun _ => trivial) rfl (fun w' hq => ?h5t2) ?_
                case h5t2 => go_simp; try with_reducible rfl
                try simp only [Act.put, List.setIfInBounds_toArray, List.set_cons_zero, List.set_cons_succ, List.getElem_toArray, List.getElem_cons_succ, List.getElem_cons_zero]
                refine take_S (v := ?v8t2) 8 rfl (by kernel_rfl) (by kernel_rfl) (by kernel_rfl) (by kernel_rfl) (fun _ _ _ h => h) hS (fun _ => trivial) rfl (fun w' hq => ?h8t2) ?_
                case h8t2 => go_simp; try with_reducible rfl
                try simp only [Act.put, List.setIfInBounds_toArray, List.set_cons_zero, List.set_cons_succ, List.getElem_toArray, List.getElem_cons_succ, List.getElem_cons_zero]
                refine take_S (v := ?v9t2) 9 rfl (by kernel_rfl) (by kernel_rfl) (by kernel_rfl) (by kernel_rfl) (fun _ _ _ h => h) hS (fun _ => trivial) rfl (fun w' hq => ?h9t2) ?_
                case h9t2 => go_simp; try with_reducible rfl
                try simp only [Act.put, List.setIfInBounds_toArray, List.set_cons_zero, List.set_cons_succ, List.getElem_toArray, List.getElem_cons_succ, List.getElem_cons_zero]
                refine take_S (v := ?v10t2) 10 rfl (by kernel_rfl) (by kernel_rfl) (by kernel_rfl) (by kernel_rfl) (fun _ _ _ h => h) hS (fun _ => trivial) rfl (fun w' hq => ?h10t2) ?_
                case h10t2 => go_simp; try with_reducible rfl
                try simp only [Act.put, List.setIfInBounds_toArray, List.set_cons_zero, List.set_cons_succ, List.getElem_toArray, List.getElem_cons_succ, List.getElem_cons_zero]
                refine take_S (v := .string ⟨(b.take 3).toArray⟩) 11 rfl (by kernel_rfl) (by kernel_rfl) (by kernel_rfl) (by kernel_rfl) (fun _ _ _ h => h) hS (fun _ => trivial) rfl (fun w' hq => ?hs11) ?_
                case hs11 =>
                  obtain ⟨S', hq'⟩ := hq
                  have kc := str_of hq' (by rw [List.length_take]; omega)
                  clear hq' hS
                  go_simp
                try simp only [Act.put, List.setIfInBounds_toArray, List.set_cons_zero, List.set_cons_succ, List.getElem_toArray, List.getElem_cons_succ, List.getElem_cons_zero]
                refine one_D 6 rfl (by kernel_rfl) (fun KQ hK => ?_)
                go_simp
                clear wcc
                refine (ref04_one hm4).mono ?_
                rintro _ w2 ⟨q, d, rfl, ho, hb⟩
                obtain ⟨S0, hS0⟩ := hS
                have hS2 : Rst (some ⟨g, off, none⟩) 3 c (b.take 3) w2 := ⟨S0, Rd.below hS0 (by decide) hb⟩
                have HB4 := Lib.hid (HB3.out.trans (hb.mono HB3.out.size))
                have kc := str_of ho rfl
                refine hK.out _ _ hS2 (fun _ => trivial) ?_
                clear hK hS0
                try simp only [Act.put, List.setIfInBounds_toArray, List.set_cons_zero, List.set_cons_succ, List.getElem_toArray, List.getElem_cons_succ, List.getElem_cons_zero]
                refine one_D 7 rfl (by kernel_rfl) (fun KQ hK => ?_)
                go_simp
                refine hK.out _ _ hS2 (fun _ => trivial) ?_
                clear hK kc
                try simp only [Act.put, List.setIfInBounds_toArray, List.set_cons_zero, List.set_cons_succ, List.getElem_toArray, List.getElem_cons_succ, List.getElem_cons_zero]
                refine one_D 12 rfl (by kernel_rfl) (fun KQ hK => ?_)
                go_simp
                cases heq : (oneB (m : Int) == List.take 3 b) with
                | false =>
                  have HN2 := Lib.hid (none_of (k := 2) (fun h => by have := (Hat.out.1 h).2; rw [Ers.out, Hcc.out] at this; rw [this] at heq; simp at heq) HN.out)
                  clear heq
                  refine hK.out _ _ hS2 (fun _ => trivial) ?_
                  clear hK
                  try simp only [Act.put, List.setIfInBounds_toArray, List.set_cons_zero, List.set_cons_succ, List.getElem_toArray, List.getElem_cons_succ, List.getElem_cons_zero]
                  refine take_S (v := ?v13u2) 13 rfl (by kernel_rfl) (by kernel_rfl) (by kernel_rfl) (by kernel_rfl) (fun _ _ _ h => h) hS2 (fun _ => trivial) rfl (fun w' hq => ?h13u2) ?_
                  case h13u2 => go_simp; try with_reducible rfl
                  try simp only [Act.put, List.setIfInBounds_toArray, List.set_cons_zero, List.set_cons_succ, List.getElem_toArray, List.getElem_cons_succ, List.getElem_cons_zero]
                  refine done_D (by kernel_rfl) ?_ _
                  clear hS2
                  go_wp2_with fail
                  go_roundw
                  case rel => exact ⟨3, by omega, by go_num, Lib.hid ⟨HB4.out, HN2.out⟩⟩
                  case measure => simp [intOf]
                | true =>
                  obtain rfl : r = 3 := by
                    rw [← Hr.out]
                    exact firstB_at' hlen HN.out (Hat.out.2 (by rw [Ers.out, Hcc.out]; exact ⟨Hm.out, by simpa using heq⟩))
                  clear heq
                  refine hK.out _ _ hS2 (fun _ => trivial) ?_
                  clear hK
                  try simp only [Act.put, List.setIfInBounds_toArray, List.set_cons_zero, List.set_cons_succ, List.getElem_toArray, List.getElem_cons_succ, List.getElem_cons_zero]
                  refine take_S (v := ?v13v2) 13 rfl (by kernel_rfl) (by kernel_rfl) (by kernel_rfl) (by kernel_rfl) (fun _ _ _ h => h) hS2 (fun _ => trivial) rfl (fun w' hq => ?h13v2) ?_
                  case h13v2 => go_simp; try with_reducible rfl
                  try simp only [Act.put, List.setIfInBounds_toArray, List.set_cons_zero, List.set_cons_succ, List.getElem_toArray, List.getElem_cons_succ, List.getElem_cons_zero]
                  refine done_D (by kernel_rfl) ?_ _
                  clear hS2
                  go_wp2_with fail
                  go_ret2
                  exact ⟨⟨_, rfl⟩, HB4.out⟩
        · have dl : decide ((3 : Int) + 1 ≤ (b.length : Int)) = true := by simp; omega
          have hkl2 : 3 < b.length := by omega
          have hkc : (4 : Int) ≤ (c : Int) := by omega
          clear hk hkl
          obtain ⟨s, hs⟩ : ∃ x : Int, x = y0 - 240 := ⟨_, rfl⟩
          have hs2 : -255 ≤ s ∧ s ≤ 255 := by omega
          have Hs2 := Lib.hid hs2
          have Hs := Lib.hid hs
          clear hs hs2
          go_wp2_with fail
          rw [← Hs.out]
          obtain ⟨w1, hw1⟩ : ∃ x, x = wr := ⟨_, rfl⟩
          subst hw1
          go_loopw [5, 6] (fun cv iv wr => ∃ i : Nat, 1 ≤ i ∧ i ≤ 4 ∧ iv = .int .i64 i ∧ cv = .int .i64 (rF b s i) ∧ Hid (Below w1.heap.size w1 wr)) (fun _ iv _ => 4 - (intOf iv).toNat)
          case atStart => exact ⟨1, by omega, by omega, rfl, rfl, Lib.hid (Below.refl _ _)⟩
          case round =>
            obtain ⟨i, hi1, hi4, rfl, rfl, hQ⟩ := hrel
            have HB2 := Lib.hid (HB.out.trans (hQ.out.mono HB.out.size))
            have HQ := Lib.hid hQ.out
            clear hQ
            have hcb := rF_bound (b := b) (i := i) Hs2.out.1 Hs2.out.2 (by omega)
            by_cases hin : i < 4
            · obtain ⟨xi, hxi⟩ : ∃ x : Int, (b[i].toNat : Int) = x := ⟨_, rfl⟩
              have ei : wr.cell? ⟨g, off + i, none⟩ = some (.int .u8 xi) := by
                have := HC.out wr HB2.out i (by omega)
                rw [hxi] at this
                exact this
              have hxb : 0 ≤ xi ∧ xi ≤ 255 := by have := b[i].toNat_lt; omega
              have Hsu := Lib.hid (show rF b s (i + 1) = 64 * rF b s i + xi - 128 by rw [rF_succ hi1 (by omega), hxi])
              have hil : (i : Int) < (b.length : Int) := by omega
              obtain ⟨hxa, hxc⟩ := hxb
              obtain ⟨hca, hcc⟩ := hcb
              generalize rF b s i = cc at *
              clear hxi e0 dl
              go_wp2_with fail
              go_roundw
              case rel => exact ⟨i + 1, by omega, by omega, by go_num, by rw [Hsu.out], HQ⟩
              case measure => simp [intOf]; omega
            · obtain rfl : i = 4 := by omega
              have Hat := Lib.hid (at_ref (k := 3) (by decide) hkl2)
              have Ers := Lib.hid (show rstart (b[0].toNat : Int) (3 + 1) = s by rw [Hs.out, Hy0.out]; rfl)
              obtain ⟨cc, hcc⟩ : ∃ x, rF b s 4 = x := ⟨_, rfl⟩
              rw [hcc] at hcb
              have Hcc := Lib.hid hcc
              rw [hcc]
              obtain ⟨hca, hcd⟩ := hcb
              clear hcc e0 dl hin hi1 hi4
              have hrd := Lib.hid (CmdRd.front (Rd.below H.out (by decide) HB2.out) (show 4 ≤ b.length from hkl2))
              go_upto_region 15 with fail
              have hS : Rst (some ⟨g, off, none⟩) 4 c (b.take 4) wr.drew := ⟨_, hrd.out⟩
              have HB3 := Lib.hid HB2.out.drew
              have wcc : IntKind.i32.wrap cc = cc := wrapI (by omega) (by omega)
              clear hrd HB2 HB
              refine begin_D (S := Rst (some ⟨g, off, none⟩) 4 c (b.take 4)) (T := Hold0) [] (by kernel_rfl) hS (fun _ => trivial) ?_
              generalize wr.drew = V1 at *
              refine take_S (v := ?v0k3) 0 rfl (by kernel_rfl) (by kernel_rfl) (by kernel_rfl) (by kernel_rfl) (fun _ _ _ h => h) hS (fun _ => trivial) rfl (fun w' hq => ?h0k3) ?_
              case h0k3 => go_simp; try with_reducible rfl
              try simp only [Act.put, List.setIfInBounds_toArray, List.set_cons_zero, List.set_cons_succ, List.getElem_toArray, List.getElem_cons_succ, List.getElem_cons_zero]
              refine take_S (v := ?v1k3) 1 rfl (by kernel_rfl) (by kernel_rfl) (by kernel_rfl) (by kernel_rfl) (fun _ _ _ h => h) hS (fun _ => trivial) rfl (fun w' hq => ?h1k3) ?_
              case h1k3 => go_simp; try with_reducible rfl
              try simp only [Act.put, List.setIfInBounds_toArray, List.set_cons_zero, List.set_cons_succ, List.getElem_toArray, List.getElem_cons_succ, List.getElem_cons_zero]
              refine one_D 2 rfl (by kernel_rfl) (fun KQ hK => ?_)
              go_simp
              refine ref04_May.mono ?_
              rintro _ _ ⟨rfl, rfl⟩
              refine hK.out _ _ hS (fun _ => trivial) ?_
              clear hK
              try simp only [Act.put, List.setIfInBounds_toArray, List.set_cons_zero, List.set_cons_succ, List.getElem_toArray, List.getElem_cons_succ, List.getElem_cons_zero]
              try rw [wcc]
              cases hm : mayC cc with
              | false =>
                have HN2 := Lib.hid (none_of (k := 3) (fun h => by have := (Hat.out.1 h).1; rw [Ers.out, Hcc.out, hm] at this; cases this) HN.out)
                clear hm wcc
                refine take_S (v := ?v3f3) 3 rfl (by kernel_rfl) (by kernel_rfl) (by kernel_rfl) (by kernel_rfl) (fun _ _ _ h => h) hS (fun _ => trivial) rfl (fun w' hq => ?h3f3) ?_
                case h3f3 => go_simp; try with_reducible rfl
                try simp only [Act.put, List.setIfInBounds_toArray, List.set_cons_zero, List.set_cons_succ, List.getElem_toArray, List.getElem_cons_succ, List.getElem_cons_zero]
                refine take_no 4 rfl (by kernel_rfl) (by kernel_rfl) (by kernel_rfl) (by kernel_rfl) (fun _ _ _ h => h) hS (fun _ => trivial) rfl ?_
                try simp only [Act.put, List.setIfInBounds_toArray, List.set_cons_zero, List.set_cons_succ, List.getElem_toArray, List.getElem_cons_succ, List.getElem_cons_zero]
                refine take_no 5 rfl (by kernel_rfl) (by kernel_rfl) (by kernel_rfl) (by kernel_rfl) (fun _ _ _ h => h) hS (fun _ => trivial) rfl ?_
                try simp only [Act.put, List.setIfInBounds_toArray, List.set_cons_zero, List.set_cons_succ, List.getElem_toArray, List.getElem_cons_succ, List.getElem_cons_zero]
                refine take_no 6 rfl (by kernel_rfl) (by kernel_rfl) (by kernel_rfl) (by kernel_rfl) (fun _ _ _ h => h) hS (fun _ => trivial) rfl ?_
                try simp only [Act.put, List.setIfInBounds_toArray, List.set_cons_zero, List.set_cons_succ, List.getElem_toArray, List.getElem_cons_succ, List.getElem_cons_zero]
                refine take_no 7 rfl (by kernel_rfl) (by kernel_rfl) (by kernel_rfl) (by kernel_rfl) (fun _ _ _ h => h) hS (fun _ => trivial) rfl ?_
                try simp only [Act.put, List.setIfInBounds_toArray, List.set_cons_zero, List.set_cons_succ, List.getElem_toArray, List.getElem_cons_succ, List.getElem_cons_zero]
                refine take_no 8 rfl (by kernel_rfl) (by kernel_rfl) (by kernel_rfl) (by kernel_rfl) (fun _ _ _ h => h) hS (fun _ => trivial) rfl ?_
                try simp only [Act.put, List.setIfInBounds_toArray, List.set_cons_zero, List.set_cons_succ, List.getElem_toArray, List.getElem_cons_succ, List.getElem_cons_zero]
                refine take_no 9 rfl (by kernel_rfl) (by kernel_rfl) (by kernel_rfl) (by kernel_rfl) (fun _ _ _ h => h) hS (fun _ => trivial) rfl ?_
                try simp only [Act.put, List.setIfInBounds_toArray, List.set_cons_zero, List.set_cons_succ, List.getElem_toArray, List.getElem_cons_succ, List.getElem_cons_zero]
                refine take_no 10 rfl (by kernel_rfl) (by kernel_rfl) (by kernel_rfl) (by kernel_rfl) (fun _ _ _ h => h) hS (fun _ => trivial) rfl ?_
                try simp only [Act.put, List.setIfInBounds_toArray, List.set_cons_zero, List.set_cons_succ, List.getElem_toArray, List.getElem_cons_succ, List.getElem_cons_zero]
                refine take_no 11 rfl (by kernel_rfl) (by kernel_rfl) (by kernel_rfl) (by kernel_rfl) (fun _ _ _ h => h) hS (fun _ => trivial) rfl ?_
                try simp only [Act.put, List.setIfInBounds_toArray, List.set_cons_zero, List.set_cons_succ, List.getElem_toArray, List.getElem_cons_succ, List.getElem_cons_zero]
                refine take_no 12 rfl (by kernel_rfl) (by kernel_rfl) (by kernel_rfl) (by kernel_rfl) (fun _ _ _ h => h) hS (fun _ => trivial) rfl ?_
                try simp only [Act.put, List.setIfInBounds_toArray, List.set_cons_zero, List.set_cons_succ, List.getElem_toArray, List.getElem_cons_succ, List.getElem_cons_zero]
                refine take_S (v := ?v13f3) 13 rfl (by kernel_rfl) (by kernel_rfl) (by kernel_rfl) (by kernel_rfl) (fun _ _ _ h => h) hS (fun _ => trivial) rfl (fun w' hq => ?h13f3) ?_
                case h13f3 => go_simp; try with_reducible rfl
                try simp only [Act.put, List.setIfInBounds_toArray, List.set_cons_zero, List.set_cons_succ, List.getElem_toArray, List.getElem_cons_succ, List.getElem_cons_zero]
                refine done_D (by kernel_rfl) ?_ _
                clear hS
                go_wp2_with fail
                go_roundw
                case rel => exact ⟨4, by omega, by go_num, Lib.hid ⟨HB3.out, HN2.out⟩⟩
                case measure => simp [intOf]
              | true =>
                obtain ⟨m, rfl⟩ : ∃ m : Nat, cc = m := ⟨cc.toNat, by have := mayC_iff hm; omega⟩
                have hm4 : m ≤ 1114111 := by have := mayC_iff hm; omega
                have Hm := Lib.hid hm
                clear hm
                refine take_S (v := ?v3t3) 3 rfl (by kernel_rfl) (by kernel_rfl) (by kernel_rfl) (by kernel_rfl) (fun _ _ _ h => h) hS (fun _ => trivial) rfl (fun w' hq => ?h3t3) ?_
                case h3t3 => go_simp; try with_reducible rfl
                try simp only [Act.put, List.setIfInBounds_toArray, List.set_cons_zero, List.set_cons_succ, List.getElem_toArray, List.getElem_cons_succ, List.getElem_cons_zero]
                refine take_S (v := ?v4t3) 4 rfl (by kernel_rfl) (by kernel_rfl) (by kernel_rfl) (by kernel_rfl) (fun _ _ _ h => h) hS (fun _ => trivial) rfl (fun w' hq => ?h4t3) ?_
                case h4t3 => go_simp; try with_reducible rfl
                try simp only [Act.put, List.setIfInBounds_toArray, List.set_cons_zero, List.set_cons_succ, List.getElem_toArray, List.getElem_cons_succ, List.getElem_cons_zero]
                refine take_S (v := ?v5t3) 5 rfl (by kernel_rfl) (by kernel_rfl) (by kernel_rfl) (by kernel_rfl) (fun _ _ _ h => h) hS (fun _ => trivial) rfl (fun w' hq => ?h5t3) ?_
                case h5t3 => go_simp; try with_reducible rfl
                try simp only [Act.put, List.setIfInBounds_toArray, List.set_cons_zero, List.set_cons_succ, List.getElem_toArray, List.getElem_cons_succ, List.getElem_cons_zero]
                refine take_S (v := ?v8t3) 8 rfl (by kernel_rfl) (by kernel_rfl) (by kernel_rfl) (by kernel_rfl) (fun _ _ _ h => h) hS (fun _ => trivial) rfl (fun w' hq => ?h8t3) ?_
                case h8t3 => go_simp; try with_reducible rfl
                try simp only [Act.put, List.setIfInBounds_toArray, List.set_cons_zero, List.set_cons_succ, List.getElem_toArray, List.getElem_cons_succ, List.getElem_cons_zero]
                refine take_S (v := ?v9t3) 9 rfl (by kernel_rfl) (by kernel_rfl) (by kernel_rfl) (by kernel_rfl) (fun _ _ _ h => h) hS (fun _ => trivial) rfl (fun w' hq => ?h9t3) ?_
                case h9t3 => go_simp; try with_reducible rfl
                try simp only [Act.put, List.setIfInBounds_toArray, List.set_cons_zero, List.set_cons_succ, List.getElem_toArray, List.getElem_cons_succ, List.getElem_cons_zero]
                refine take_S (v := ?v10t3) 10 rfl (by kernel_rfl) (by kernel_rfl) (by kernel_rfl) (by kernel_rfl) (fun _ _ _ h => h) hS (fun _ => trivial) rfl (fun w' hq => ?h10t3) ?_
                case h10t3 => go_simp; try with_reducible rfl
                try simp only [Act.put, List.setIfInBounds_toArray, List.set_cons_zero, List.set_cons_succ, List.getElem_toArray, List.getElem_cons_succ, List.getElem_cons_zero]
                refine take_S (v := .string ⟨(b.take 4).toArray⟩) 11 rfl (by kernel_rfl) (by kernel_rfl) (by kernel_rfl) (by kernel_rfl) (fun _ _ _ h => h) hS (fun _ => trivial) rfl (fun w' hq => ?hs11) ?_
                case hs11 =>
                  obtain ⟨S', hq'⟩ := hq
                  have kc := str_of hq' (by rw [List.length_take]; omega)
                  clear hq' hS
                  go_simp
                try simp only [Act.put, List.setIfInBounds_toArray, List.set_cons_zero, List.set_cons_succ, List.getElem_toArray, List.getElem_cons_succ, List.getElem_cons_zero]
                refine one_D 6 rfl (by kernel_rfl) (fun KQ hK => ?_)
                go_simp
                clear wcc
                refine (ref04_one hm4).mono ?_
                rintro _ w2 ⟨q, d, rfl, ho, hb⟩
                obtain ⟨S0, hS0⟩ := hS
                have hS2 : Rst (some ⟨g, off, none⟩) 4 c (b.take 4) w2 := ⟨S0, Rd.below hS0 (by decide) hb⟩
                have HB4 := Lib.hid (HB3.out.trans (hb.mono HB3.out.size))
                have kc := str_of ho rfl
                refine hK.out _ _ hS2 (fun _ => trivial) ?_
                clear hK hS0
                try simp only [Act.put, List.setIfInBounds_toArray, List.set_cons_zero, List.set_cons_succ, List.getElem_toArray, List.getElem_cons_succ, List.getElem_cons_zero]
                refine one_D 7 rfl (by kernel_rfl) (fun KQ hK => ?_)
                go_simp
                refine hK.out _ _ hS2 (fun _ => trivial) ?_
                clear hK kc
                try simp only [Act.put, List.setIfInBounds_toArray, List.set_cons_zero, List.set_cons_succ, List.getElem_toArray, List.getElem_cons_succ, List.getElem_cons_zero]
                refine one_D 12 rfl (by kernel_rfl) (fun KQ hK => ?_)
                go_simp
                cases heq : (oneB (m : Int) == List.take 4 b) with
                | false =>
                  have HN2 := Lib.hid (none_of (k := 3) (fun h => by have := (Hat.out.1 h).2; rw [Ers.out, Hcc.out] at this; rw [this] at heq; simp at heq) HN.out)
                  clear heq
                  refine hK.out _ _ hS2 (fun _ => trivial) ?_
                  clear hK
                  try simp only [Act.put, List.setIfInBounds_toArray, List.set_cons_zero, List.set_cons_succ, List.getElem_toArray, List.getElem_cons_succ, List.getElem_cons_zero]
                  refine take_S (v := ?v13u3) 13 rfl (by kernel_rfl) (by kernel_rfl) (by kernel_rfl) (by kernel_rfl) (fun _ _ _ h => h) hS2 (fun _ => trivial) rfl (fun w' hq => ?h13u3) ?_
                  case h13u3 => go_simp; try with_reducible rfl
                  try simp only [Act.put, List.setIfInBounds_toArray, List.set_cons_zero, List.set_cons_succ, List.getElem_toArray, List.getElem_cons_succ, List.getElem_cons_zero]
                  refine done_D (by kernel_rfl) ?_ _
                  clear hS2
                  go_wp2_with fail
                  go_roundw
                  case rel => exact ⟨4, by omega, by go_num, Lib.hid ⟨HB4.out, HN2.out⟩⟩
                  case measure => simp [intOf]
                | true =>
                  obtain rfl : r = 4 := by
                    rw [← Hr.out]
                    exact firstB_at' hlen HN.out (Hat.out.2 (by rw [Ers.out, Hcc.out]; exact ⟨Hm.out, by simpa using heq⟩))
                  clear heq
                  refine hK.out _ _ hS2 (fun _ => trivial) ?_
                  clear hK
                  try simp only [Act.put, List.setIfInBounds_toArray, List.set_cons_zero, List.set_cons_succ, List.getElem_toArray, List.getElem_cons_succ, List.getElem_cons_zero]
                  refine take_S (v := ?v13v3) 13 rfl (by kernel_rfl) (by kernel_rfl) (by kernel_rfl) (by kernel_rfl) (fun _ _ _ h => h) hS2 (fun _ => trivial) rfl (fun w' hq => ?h13v3) ?_
                  case h13v3 => go_simp; try with_reducible rfl
                  try simp only [Act.put, List.setIfInBounds_toArray, List.set_cons_zero, List.set_cons_succ, List.getElem_toArray, List.getElem_cons_succ, List.getElem_cons_zero]
                  refine done_D (by kernel_rfl) ?_ _
                  clear hS2
                  go_wp2_with fail
                  go_ret2
                  exact ⟨⟨_, rfl⟩, HB4.out⟩
        · obtain rfl : r = 0 := by rw [← Hr.out]; exact firstB_no' hlen HN.out (.inl (Nat.le_refl _))
          go_wp2_with fail
          go_ret2
          exact ⟨⟨_, rfl⟩, HB.out⟩
end Go.Proofs.YtciojggkcmdjiaaDoor
