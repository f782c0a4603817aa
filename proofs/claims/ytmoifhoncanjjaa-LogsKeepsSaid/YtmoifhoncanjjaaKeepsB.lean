/-
  LogsKeeps: the walk, at more than 64 entries. (Printed by wip/gen_keeps.py.)
-/
import Derived.Test.YtmoifhoncanjjaaKeepsW
namespace Go.Proofs.Ytmoifhoncanjjaa
open Go.RowKit
set_option linter.unusedSimpArgs false
set_option linter.unusedVariables false

set_option maxHeartbeats 6400000 in
set_option maxRecDepth 100000 in
theorem keeps_large {w : World} {S : Nat → Prop} {m cut trim : Int} {v : Value} {es : List Ent} (h : EntsRd w S v es) (hn : ¬ es.length ≤ 64) (hf : Fits es) (hS : ∀ j, S j → j < w.heap.size) (hm : 0 ≤ m) (hm' : m < 18446744073709551616) (hc : 0 ≤ cut) (hc' : cut ≤ 255) (ht : 0 ≤ trim) (ht' : trim ≤ 255) :
    Calls Try.prog 3 #[.int .u64 m, v, .int .u8 cut, .int .u8 trim] w fun x w' => x = .returned (.bool true) ∧ Below w.heap.size w w' := by
  obtain ⟨cs, hr, -⟩ := id h
  obtain ⟨p, c, rfl⟩ := Rd.slice hr
  have hlen := Rd.le hr
  have hlc : es.length ≤ c := by obtain ⟨_, _, _, h, h1, _⟩ := hr; injection h with _ _ h; omega
  have hm2 : 0 ≤ m % 1099511627776 ∧ m % 1099511627776 < 1099511627776 := by omega
  unfold maxLen at hlen
  have H := Lib.hid h
  have Hf := Lib.hid hf
  clear hr h hf
  have f64 := EntsRd.front H.out (k := 64) (by omega)
  have g64 := Hf.out.take 64
  have h64 : (es.take 64).length = 64 := by rw [List.length_take]; omega
  go_enter Try.func3, Try.ntmps3
  go_wp2_with fail
  have hlc' : 64 ≤ c := by omega
  clear H Hf hn hlen hlc
  generalize es.take 64 = es at f64 g64 h64
  have hn : es.length ≤ 64 := by omega
  have hlc : es.length ≤ c := by omega
  have hlen : es.length ≤ 281474976710656 := by omega
  rw [show Value.slice p 64 c = Value.slice p es.length c from by rw [h64]]
  rw [← h64] at f64
  have h65 := h64
  clear h64
  have H := Lib.hid f64
  have Hf := Lib.hid g64
  have h64 : 64 ≤ es.length := by omega
  clear h65
  clear f64 g64 hlc'
  refine (log_New (S := fun _ => False) (m := m % 1099511627776) (es := []) (v := .slice none 0 0) ⟨[], Rd.nil _ _ _, Els.nil _ _⟩ (by intro e h; cases h) (by decide) (by omega)).mono ?_
  rintro x w1 ⟨l, rfl, hN⟩
  generalize m % 1099511627776 = m1 at *
  obtain ⟨hm2, hm3⟩ := hm2
  have H1 := Lib.hid (At.new hN (Below.refl _ w))
  clear hN
  go_wp2_with fail
  go_loopw [12] (fun i wr => ∃ k : Nat, k ≤ es.length ∧ i = .int .i64 k ∧ At w wr l m1 (es.take k)) (fun i _ => es.length - (intOf i).toNat)
  case atStart => exact ⟨0, Nat.zero_le _, rfl, by rw [List.take_zero]; exact H1.out⟩
  case round =>
    obtain ⟨k, hk, rfl, hat⟩ := hrel
    have Ha := Lib.hid hat
    clear hat
    by_cases hlt : k < es.length
    · have hr := H.out
      obtain ⟨cs, hr, hE⟩ := hr
      obtain ⟨bb, off, he, _, _, hcell⟩ := Rd.addr hr (by omega)
      subst he
      obtain ⟨s, hs, hq⟩ := hE.2 k es[k] (List.getElem?_eq_getElem (by omega))
      obtain ⟨e0, e1, e2, e3⟩ := cells4 hcell hs
      obtain ⟨hc, -⟩ := bcell Ha.out.2.2
      have lt1 := lt_of_cell e0
      rw [← hc bb _ lt1] at e0 e1 e2 e3
      obtain ⟨sp, sc, rfl⟩ := Rd.slice hq
      have Hq := Lib.hid (Rd.below hq (by decide) Ha.out.2.2)
      have hfk := Hf.out _ (List.getElem_mem (show k < es.length by omega))
      have hlk : (es.take k).length = k := by simp only [List.length_take]; omega
      have Hlk := Lib.hid hlk
      have hok : LogOk m1 (es.take k) := ⟨Hf.out.take k, by rw [hlk]; omega, hm2, by omega⟩
      have Hok := Lib.hid hok
      have hok' : LogOk m1 (es.take (k + 1)) := ⟨Hf.out.take (k + 1), by simp only [List.length_take]; omega, hm2, by omega⟩
      have Hok' := Lib.hid hok'
      clear hr hE hcell hs hq hc hlk hok hok'
      go_wp2_with fail
      refine (At_Append (T := S) (e := es[k]) Ha.out Hok.out Hq.out hfk (by rw [Hlk.out]; omega)).mono ?_
      rintro x w2 ⟨rfl, h2, -⟩
      rw [Hlk.out]
      have h2' : At w w2 l m1 (es.take (k + 1)) := by
        rw [take_snoc es k (by omega)]
        exact h2
      have hlk1 : (es.take (k + 1)).length = k + 1 := by simp only [List.length_take]; omega
      have Hlk1 := Lib.hid hlk1
      have H2 := Lib.hid h2'
      clear h2 h2' hlk1 e0 e1 e2 e3
      go_wp2_with fail
      refine (At_Op H2.out Hok'.out).mono ?_
      rintro x w3 ⟨rfl, rfl⟩
      rw [Hlk1.out]
      go_wp2_with fail
      go_roundw
      case rel => exact ⟨k + 1, by omega, by go_num, H2.out⟩
      case measure => simp [intOf]; omega
    · obtain rfl : k = es.length := by omega
      rw [List.take_length] at Ha
      have H1 := Ha
      clear Ha
      have hok : LogOk m1 es := ⟨Hf.out, by omega, hm2, by omega⟩
      have Hok := Lib.hid hok
      clear hok
      obtain ⟨K, hK, hKn⟩ : ∃ K : Nat, cut % (((es.length : Nat) : Int) + 1) = K ∧ K ≤ es.length := ⟨(cut % (((es.length : Nat) : Int) + 1)).toNat, by have := Int.emod_nonneg cut (show ((es.length : Nat) : Int) + 1 ≠ 0 by omega); omega, by have := Int.emod_nonneg cut (show ((es.length : Nat) : Int) + 1 ≠ 0 by omega); have := Int.emod_lt_of_pos cut (show (0 : Int) < ((es.length : Nat) : Int) + 1 by omega); omega⟩
      obtain ⟨T, hT, hTn⟩ : ∃ T : Nat, trim % (((es.length : Nat) : Int) + 1) = T ∧ T ≤ es.length := ⟨(trim % (((es.length : Nat) : Int) + 1)).toNat, by have := Int.emod_nonneg trim (show ((es.length : Nat) : Int) + 1 ≠ 0 by omega); omega, by have := Int.emod_nonneg trim (show ((es.length : Nat) : Int) + 1 ≠ 0 by omega); have := Int.emod_lt_of_pos trim (show (0 : Int) < ((es.length : Nat) : Int) + 1 by omega); omega⟩
      go_wp2_with fail
      obtain ⟨⟨S1, L1, hS1⟩, hb1, hx1⟩ := H1.out
      refine (log_Copy L1 Hok.out).mono ?_
      rintro x w2 ⟨a, rfl, hN2⟩
      have L2 := L1.below hN2.2.2.2
      have HN2 := Lib.hid hN2
      have HL2 := Lib.hid L2
      clear hN2 L2 L1 hS1 hx1
      go_wp2_with fail
      refine (log_Copy HL2.out Hok.out).mono ?_
      rintro x w3 ⟨b, rfl, hN3⟩
      have H3 := Lib.hid (Apart.mk' H1.out HN2.out hN3)
      clear hN3 HN2 HL2 H1 hb1
      go_wp2_with fail
      have h65 : ((es.length : Nat) : Int) + 1 = 65 := by omega
      have hK2 : cut % 65 = K := by rw [← h65]; exact hK
      have hT2 : trim % 65 = T := by rw [← h65]; exact hT
      clear h65
      have q1 : IntKind.u64.wrap (K : Int) = K := IntWalk.u64_in _ (by omega)
      have q2 : IntKind.u64.wrap (T : Int) = T := IntWalk.u64_in _ (by omega)
      have q3 : IntKind.u64.wrap (m1 + (K : Int)) = m1 + K := IntWalk.u64_in _ (by omega)
      have q4 : IntKind.u64.wrap (m1 + (T : Int)) = m1 + T := IntWalk.u64_in _ (by omega)
      go_quiet (fail)
      clear q1 q2 q3 q4 hK hT hK2 hT2
      have H4 := Lib.hid (Apart.below H3.out (below_drewN (Below.refl _ w3) nq))
      clear H3
      generalize w3.drewN nq = w4 at *
      go_wp2_with fail
      refine (Apart.cut (K := K) H4.out Hok.out (by omega)).mono ?_
      rintro x w5 ⟨rfl, h5⟩
      have H5 := Lib.hid h5
      clear h5 H4
      go_wp2_with fail
      refine (Apart.trim (T := T) H5.out Hok.out (by omega)).mono ?_
      rintro x w6 ⟨rfl, h6⟩
      have H6 := Lib.hid h6
      clear h6 H5
      have okA := Lib.hid (Ok.cut Hok.out (K := K) (by omega) (by omega))
      have okB := Lib.hid (Ok.trim Hok.out (T := T))
      have dA : (es.drop K).length = es.length - K := by rw [List.length_drop]
      have DA := Lib.hid dA
      have dB : (es.take T).length = T := by simp only [List.length_take]; omega
      have DB := Lib.hid dB
      clear dA dB
      obtain ⟨pa, ca, kA⟩ := H6.out.2.1.blk
      obtain ⟨pb, cb, kB⟩ := H6.out.2.2.blk
      have KA := Lib.hid kA
      have KB := Lib.hid kB
      clear kA kB
      go_wp2_with fail
      refine (log_Base KA.out).mono ?_
      rintro x w7 ⟨rfl, rfl⟩
      go_wp2_with fail
      refine (At_Op H6.out.2.1 okA.out).mono ?_
      rintro x w7 ⟨rfl, rfl⟩
      rw [DA.out]
      have q5 : m1 + (K : Int) + ((es.length - K : Nat) : Int) = m1 + (es.length : Nat) := by omega
      rw [q5]
      clear q5
      go_wp2_with fail
      refine (At_Op H6.out.1 Hok.out).mono ?_
      rintro x w7 ⟨rfl, rfl⟩
      go_wp2_with fail
      refine (log_Base KB.out).mono ?_
      rintro x w7 ⟨rfl, rfl⟩
      go_wp2_with fail
      refine (At_Op H6.out.2.2 okB.out).mono ?_
      rintro x w7 ⟨rfl, rfl⟩
      rw [DB.out]
      go_wp2_with fail
      go_loopw [19] (fun i wr => ∃ k : Nat, k ≤ es.length ∧ i = .int .i64 k ∧ Three w wr l a b m1 es K T) (fun i _ => es.length - (intOf i).toNat)
      case atStart => exact ⟨0, Nat.zero_le _, rfl, H6.out⟩
      case round =>
        clear H6 KA KB
        obtain ⟨k, hk, rfl, h3⟩ := hrel
        have H7 := Lib.hid h3
        clear h3
        by_cases hlt : k < es.length
        · have hr := H.out
          obtain ⟨cs, hr, hE⟩ := hr
          obtain ⟨bb, off, he, _, _, hcell⟩ := Rd.addr hr (by omega)
          subst he
          obtain ⟨s, hs, hq⟩ := hE.2 k es[k] (List.getElem?_eq_getElem (by omega))
          obtain ⟨e0, e1, e2, e3⟩ := cells4 hcell hs
          have hltb := lt_of_cell e0
          obtain ⟨hc, -⟩ := bcell H7.out.1.2.2
          rw [← hc bb _ hltb] at e0 e1 e2 e3
          obtain ⟨sp, sc, rfl⟩ := Rd.slice hq
          have Hq := Lib.hid (Rd.below hq (by decide) H7.out.1.2.2)
          have E0 := Lib.hid e0
          have E1 := Lib.hid e1
          have E2 := Lib.hid e2
          have E3 := Lib.hid e3
          have hfk : es[k]? = some es[k] := by exact List.getElem?_eq_getElem (by omega)
          have Hfk := Lib.hid hfk
          clear hr hE hcell hs hq hc e0 e1 e2 e3 hfk
          go_wp2_with fail
          refine (At_Get' (j := k) H7.out.1 Hok.out Hfk.out (by omega)).mono ?_
          rintro x w2 ⟨px, cx, rfl, hox, hX2⟩
          have H8 := Lib.hid (H7.out.below hX2)
          have HX2 := Lib.hid hX2
          have Hx := Lib.hid (Rd.of_own hox)
          clear hox hX2 H7
          unfold entVal
          by_cases hkK : k < K
          · by_cases hkT : k < T
            · go_wp2_with fail
              have kx := Blk.new w2 33 #[.int .u64 es[k].t, .int .u32 es[k].c, .int .u64 es[k].r, .slice px es[k].cmd.length cx]
              have H9 := Lib.hid (H8.out.below ((Below.refl _ w2).alloc (Nat.le_refl _) (.cells #[.int .u64 es[k].t, .int .u32 es[k].c, .int .u64 es[k].r, .slice px es[k].cmd.length cx] 33)))
              have Hq1 := Lib.hid (Rd.below Hq.out (by decide) (HX2.out.alloc (by exact HX2.out.size) (.cells #[.int .u64 es[k].t, .int .u32 es[k].c, .int .u64 es[k].r, .slice px es[k].cmd.length cx] 33)))
              have HXa := Lib.hid (HX2.out.alloc (by exact HX2.out.size) (.cells #[.int .u64 es[k].t, .int .u32 es[k].c, .int .u64 es[k].r, .slice px es[k].cmd.length cx] 33))
              have Hx1 := Lib.hid (Rd.alloc Hx.out (by decide) (.cells #[.int .u64 es[k].t, .int .u32 es[k].c, .int .u64 es[k].r, .slice px es[k].cmd.length cx] 33))
              have Kx := Lib.hid kx
              have hw2 := kx.lt
              clear kx HX2 H8 Hx Hq
              generalize w2.alloc (.cells #[.int .u64 es[k].t, .int .u32 es[k].c, .int .u64 es[k].r, .slice px es[k].cmd.length cx] 33) = W2 at *
              refine (At_Get_gone H9.out.2.1 okA.out (by omega)).mono ?_
              rintro x w3 ⟨rfl, hX3, -⟩
              have ky := Blk.new w3 33 #[.int .u64 0, .int .u32 0, .int .u64 0, .slice none 0 0]
              have hXb := hX3.alloc (by exact hX3.size) (.cells #[.int .u64 0, .int .u32 0, .int .u64 0, .slice none 0 0] 33)
              have H10 := Lib.hid (H9.out.below hXb)
              have Hq2 := Lib.hid (Rd.below Hq1.out (by decide) hXb)
              have Hx2 := Lib.hid (Rd.below Hx1.out (by decide) hXb)
              have Kx2 := Lib.hid (Blk.below Kx.out hXb)
              have HXc := Lib.hid (HXa.out.trans (hXb.mono HXa.out.size))
              have Ky := Lib.hid ky
              have hw3 := ky.lt
              clear ky hX3 H9 Hq1 Hx1 Kx HXa hXb
              unfold entVal
              go_wp2_with fail
              generalize w3.alloc (.cells #[.int .u64 0, .int .u32 0, .int .u64 0, .slice none 0 0] 33) = W3 at *
              refine (At_Get' (j := k) (e := es[k]) H10.out.2.2 okB.out (by rw [List.getElem?_take, if_pos hkT]; exact Hfk.out) (by omega)).mono ?_
              rintro x w4 ⟨pz, cz, rfl, hoz, hX4⟩
              have Hz := Lib.hid (Rd.of_own hoz)
              clear hoz
              have kz := Blk.new w4 33 #[.int .u64 es[k].t, .int .u32 es[k].c, .int .u64 es[k].r, .slice pz es[k].cmd.length cz]
              have hXd := hX4.alloc (by exact hX4.size) (.cells #[.int .u64 es[k].t, .int .u32 es[k].c, .int .u64 es[k].r, .slice pz es[k].cmd.length cz] 33)
              have H11 := Lib.hid (H10.out.below hXd)
              have Hq' := Lib.hid (Rd.below Hq2.out (by decide) hXd)
              have Hx' := Lib.hid (Rd.below Hx2.out (by decide) hXd)
              have Kx' := Lib.hid (Blk.below Kx2.out hXd)
              have Ky' := Lib.hid (Blk.below Ky.out hXd)
              have Hz' := Lib.hid (Rd.alloc Hz.out (by decide) (.cells #[.int .u64 es[k].t, .int .u32 es[k].c, .int .u64 es[k].r, .slice pz es[k].cmd.length cz] 33))
              have HXe := HXc.out.trans (hXd.mono HXc.out.size)
              have i0 := (HXe.cell (p := ⟨bb, off + k * 4, none⟩) (lt_of_cell E0.out)).trans E0.out
              have i1 := (HXe.cell (p := ⟨bb, off + k * 4 + 1, none⟩) (lt_of_cell E1.out)).trans E1.out
              have i2 := (HXe.cell (p := ⟨bb, off + k * 4 + 2, none⟩) (lt_of_cell E2.out)).trans E2.out
              have i3 := (HXe.cell (p := ⟨bb, off + k * 4 + 3, none⟩) (lt_of_cell E3.out)).trans E3.out
              have Kz := Lib.hid kz
              have hw4 := kz.lt
              clear kz hX4 H10 Hq2 Hx2 Kx2 Ky HXc HXe hXd Hz
              unfold entVal
              go_wp2_with fail
              generalize w4.alloc (.cells #[.int .u64 es[k].t, .int .u32 es[k].c, .int .u64 es[k].r, .slice pz es[k].cmd.length cz] 33) = W at *
              obtain ⟨x0, x1, x2, x3, -, -, -, -, -⟩ := Kx'.out.c4
              have hS : Holds [(w2.heap.size, 0, .int .u64 es[k].t), (w2.heap.size, 1, .int .u32 es[k].c), (w2.heap.size, 2, .int .u64 es[k].r), (w2.heap.size, 3, .slice px es[k].cmd.length cx), (bb, off + k * 4, .int .u64 es[k].t), (bb, off + k * 4 + 1, .int .u32 es[k].c), (bb, off + k * 4 + 2, .int .u64 es[k].r), (bb, off + k * 4 + 3, .slice sp es[k].cmd.length sc)] W.drew := ⟨x0, x1, x2, x3, i0, i1, i2, i3, trivial⟩
              have hT : Hold0 W.drew := trivial
              refine begin_D [] (by kernel_rfl) hS (fun _ => hT) ?_
              refine take_S (v := ?v0) 0 rfl (by kernel_rfl) (by kernel_rfl) (by kernel_rfl) (by kernel_rfl) (fun _ _ _ h => h) hS (fun _ => trivial) rfl (fun w' hq => ?h0) ?_
              case h0 => obtain ⟨hq0, hq1, hq2, hq3, hq4, hq5, hq6, hq7, -⟩ := hq; change _ = some _ at hq0; change _ = some _ at hq1; change _ = some _ at hq2; change _ = some _ at hq3; change _ = some _ at hq4; change _ = some _ at hq5; change _ = some _ at hq6; change _ = some _ at hq7; go_simp; try with_reducible rfl
              try simp only [Act.put, List.setIfInBounds_toArray, List.set_cons_zero, List.set_cons_succ, List.getElem_toArray, List.getElem_cons_succ, List.getElem_cons_zero]
              refine take_S (v := ?v1) 1 rfl (by kernel_rfl) (by kernel_rfl) (by kernel_rfl) (by kernel_rfl) (fun _ _ _ h => h) hS (fun _ => trivial) rfl (fun w' hq => ?h1) ?_
              case h1 => obtain ⟨hq0, hq1, hq2, hq3, hq4, hq5, hq6, hq7, -⟩ := hq; change _ = some _ at hq0; change _ = some _ at hq1; change _ = some _ at hq2; change _ = some _ at hq3; change _ = some _ at hq4; change _ = some _ at hq5; change _ = some _ at hq6; change _ = some _ at hq7; go_simp; try with_reducible rfl
              try simp only [Act.put, List.setIfInBounds_toArray, List.set_cons_zero, List.set_cons_succ, List.getElem_toArray, List.getElem_cons_succ, List.getElem_cons_zero]
              refine take_S (v := ?v2) 2 rfl (by kernel_rfl) (by kernel_rfl) (by kernel_rfl) (by kernel_rfl) (fun _ _ _ h => h) hS (fun _ => trivial) rfl (fun w' hq => ?h2) ?_
              case h2 => obtain ⟨hq0, hq1, hq2, hq3, hq4, hq5, hq6, hq7, -⟩ := hq; change _ = some _ at hq0; change _ = some _ at hq1; change _ = some _ at hq2; change _ = some _ at hq3; change _ = some _ at hq4; change _ = some _ at hq5; change _ = some _ at hq6; change _ = some _ at hq7; go_simp; try with_reducible rfl
              try simp only [Act.put, List.setIfInBounds_toArray, List.set_cons_zero, List.set_cons_succ, List.getElem_toArray, List.getElem_cons_succ, List.getElem_cons_zero]
              refine take_S (v := ?v3) 3 rfl (by kernel_rfl) (by kernel_rfl) (by kernel_rfl) (by kernel_rfl) (fun _ _ _ h => h) hS (fun _ => trivial) rfl (fun w' hq => ?h3) ?_
              case h3 => obtain ⟨hq0, hq1, hq2, hq3, hq4, hq5, hq6, hq7, -⟩ := hq; change _ = some _ at hq0; change _ = some _ at hq1; change _ = some _ at hq2; change _ = some _ at hq3; change _ = some _ at hq4; change _ = some _ at hq5; change _ = some _ at hq6; change _ = some _ at hq7; go_simp; try with_reducible rfl
              try simp only [Act.put, List.setIfInBounds_toArray, List.set_cons_zero, List.set_cons_succ, List.getElem_toArray, List.getElem_cons_succ, List.getElem_cons_zero]
              refine take_S (v := ?v4) 4 rfl (by kernel_rfl) (by kernel_rfl) (by kernel_rfl) (by kernel_rfl) (fun _ _ _ h => h) hS (fun _ => trivial) rfl (fun w' hq => ?h4) ?_
              case h4 => obtain ⟨hq0, hq1, hq2, hq3, hq4, hq5, hq6, hq7, -⟩ := hq; change _ = some _ at hq0; change _ = some _ at hq1; change _ = some _ at hq2; change _ = some _ at hq3; change _ = some _ at hq4; change _ = some _ at hq5; change _ = some _ at hq6; change _ = some _ at hq7; go_simp; try with_reducible rfl
              try simp only [Act.put, List.setIfInBounds_toArray, List.set_cons_zero, List.set_cons_succ, List.getElem_toArray, List.getElem_cons_succ, List.getElem_cons_zero]
              refine take_S (v := ?v5) 5 rfl (by kernel_rfl) (by kernel_rfl) (by kernel_rfl) (by kernel_rfl) (fun _ _ _ h => h) hS (fun _ => trivial) rfl (fun w' hq => ?h5) ?_
              case h5 => obtain ⟨hq0, hq1, hq2, hq3, hq4, hq5, hq6, hq7, -⟩ := hq; change _ = some _ at hq0; change _ = some _ at hq1; change _ = some _ at hq2; change _ = some _ at hq3; change _ = some _ at hq4; change _ = some _ at hq5; change _ = some _ at hq6; change _ = some _ at hq7; go_simp; try with_reducible rfl
              try simp only [Act.put, List.setIfInBounds_toArray, List.set_cons_zero, List.set_cons_succ, List.getElem_toArray, List.getElem_cons_succ, List.getElem_cons_zero]
              refine take_S (v := ?v6) 6 rfl (by kernel_rfl) (by kernel_rfl) (by kernel_rfl) (by kernel_rfl) (fun _ _ _ h => h) hS (fun _ => trivial) rfl (fun w' hq => ?h6) ?_
              case h6 => obtain ⟨hq0, hq1, hq2, hq3, hq4, hq5, hq6, hq7, -⟩ := hq; change _ = some _ at hq0; change _ = some _ at hq1; change _ = some _ at hq2; change _ = some _ at hq3; change _ = some _ at hq4; change _ = some _ at hq5; change _ = some _ at hq6; change _ = some _ at hq7; go_simp; try with_reducible rfl
              try simp only [Act.put, List.setIfInBounds_toArray, List.set_cons_zero, List.set_cons_succ, List.getElem_toArray, List.getElem_cons_succ, List.getElem_cons_zero]
              refine take_S (v := ?v7) 7 rfl (by kernel_rfl) (by kernel_rfl) (by kernel_rfl) (by kernel_rfl) (fun _ _ _ h => h) hS (fun _ => trivial) rfl (fun w' hq => ?h7) ?_
              case h7 => obtain ⟨hq0, hq1, hq2, hq3, hq4, hq5, hq6, hq7, -⟩ := hq; change _ = some _ at hq0; change _ = some _ at hq1; change _ = some _ at hq2; change _ = some _ at hq3; change _ = some _ at hq4; change _ = some _ at hq5; change _ = some _ at hq6; change _ = some _ at hq7; go_simp; try with_reducible rfl
              try simp only [Act.put, List.setIfInBounds_toArray, List.set_cons_zero, List.set_cons_succ, List.getElem_toArray, List.getElem_cons_succ, List.getElem_cons_zero]
              refine one_D 8 rfl (by kernel_rfl) (fun KQ hK => ?_)
              go_simp
              refine (log_Same (e := es[k]) (f := es[k]) (Rd.drew Hx'.out) (Rd.drew Hq'.out)).mono ?_
              rintro x w5 ⟨rfl, hX5⟩
              rw [sameB_self]
              have g : ∀ b o v, W.cell? ⟨b, o, none⟩ = some v → w5.cell? ⟨b, o, none⟩ = some v := fun b o v h => (hX5.cell (p := ⟨b, o, none⟩) (lt_of_cell h)).trans h
              have hS1 : Holds [(w2.heap.size, 0, .int .u64 es[k].t), (w2.heap.size, 1, .int .u32 es[k].c), (w2.heap.size, 2, .int .u64 es[k].r), (w2.heap.size, 3, .slice px es[k].cmd.length cx), (bb, off + k * 4, .int .u64 es[k].t), (bb, off + k * 4 + 1, .int .u32 es[k].c), (bb, off + k * 4 + 2, .int .u64 es[k].r), (bb, off + k * 4 + 3, .slice sp es[k].cmd.length sc)] w5 := ⟨g _ _ _ x0, g _ _ _ x1, g _ _ _ x2, g _ _ _ x3, g _ _ _ i0, g _ _ _ i1, g _ _ _ i2, g _ _ _ i3, trivial⟩
              have HX5 := Lib.hid ((below_drewN (Below.refl _ W) 1).trans hX5)
              refine hK.out _ _ hS1 (fun _ => trivial) ?_
              clear hK hS hX5 g
              refine take_S (v := ?v9) 9 rfl (by kernel_rfl) (by kernel_rfl) (by kernel_rfl) (by kernel_rfl) (fun _ _ _ h => h) hS1 (fun _ => trivial) rfl (fun w' hq => ?h9) ?_
              case h9 => obtain ⟨hq0, hq1, hq2, hq3, hq4, hq5, hq6, hq7, -⟩ := hq; change _ = some _ at hq0; change _ = some _ at hq1; change _ = some _ at hq2; change _ = some _ at hq3; change _ = some _ at hq4; change _ = some _ at hq5; change _ = some _ at hq6; change _ = some _ at hq7; go_simp; try with_reducible rfl
              try simp only [Act.put, List.setIfInBounds_toArray, List.set_cons_zero, List.set_cons_succ, List.getElem_toArray, List.getElem_cons_succ, List.getElem_cons_zero]
              refine take_S (v := ?v10) 10 rfl (by kernel_rfl) (by kernel_rfl) (by kernel_rfl) (by kernel_rfl) (fun _ _ _ h => h) hS1 (fun _ => trivial) rfl (fun w' hq => ?h10) ?_
              case h10 => obtain ⟨hq0, hq1, hq2, hq3, hq4, hq5, hq6, hq7, -⟩ := hq; change _ = some _ at hq0; change _ = some _ at hq1; change _ = some _ at hq2; change _ = some _ at hq3; change _ = some _ at hq4; change _ = some _ at hq5; change _ = some _ at hq6; change _ = some _ at hq7; go_simp; try with_reducible rfl
              try simp only [Act.put, List.setIfInBounds_toArray, List.set_cons_zero, List.set_cons_succ, List.getElem_toArray, List.getElem_cons_succ, List.getElem_cons_zero]
              refine done_D (by kernel_rfl) ?_ _
              clear hS1 x0 x1 x2 x3 i0 i1 i2 i3
              have H12 := Lib.hid (H11.out.below HX5.out)
              have Kx5 := Lib.hid (Blk.below Kx'.out HX5.out)
              have Ky5 := Lib.hid (Blk.below Ky'.out HX5.out)
              have Kz5 := Lib.hid (Blk.below Kz.out HX5.out)
              have Hx5 := Lib.hid (Rd.below Hx'.out (by decide) HX5.out)
              have Hz5 := Lib.hid (Rd.below Hz'.out (by decide) HX5.out)
              clear HX5 H11 Kx' Ky' Kz Hx' Hq' hT Hz'
              obtain ⟨x0, x1, x2, x3, -, -, -, -, hxz⟩ := Kx5.out.c4
              obtain ⟨y0, y1, y2, y3, -, -, -, -, hyz⟩ := Ky5.out.c4
              obtain ⟨z0, z1, z2, z3, -, -, -, -, hzz⟩ := Kz5.out.c4
              have d1 : decide (m1 + (K : Int) < m1 + (k : Int) + 1) = false := by simp; omega
              have d2 : decide (m1 + (k : Int) + 1 ≤ m1 + (K : Int)) = true := by simp; omega
              have d3 : decide (m1 + (k : Int) + 1 ≤ m1 + (T : Int)) = true := by simp; omega
              have d4 : decide (m1 + (T : Int) < m1 + (k : Int) + 1) = false := by simp; omega
              go_wp2_with fail
              refine (log_Same (e := es[k]) (f := es[k]) Hx5.out Hz5.out).mono ?_
              rintro x w7 ⟨rfl, hX7⟩
              rw [sameB_self]
              have H14 := Lib.hid (H12.out.below hX7)
              clear hX7 H12
              go_wp2_with fail
              clear d1 d2 d3 d4
              go_roundw
              case rel => exact ⟨k + 1, by omega, by go_num, H14.out⟩
              case measure => simp [intOf]; omega
            · go_wp2_with fail
              have kx := Blk.new w2 33 #[.int .u64 es[k].t, .int .u32 es[k].c, .int .u64 es[k].r, .slice px es[k].cmd.length cx]
              have H9 := Lib.hid (H8.out.below ((Below.refl _ w2).alloc (Nat.le_refl _) (.cells #[.int .u64 es[k].t, .int .u32 es[k].c, .int .u64 es[k].r, .slice px es[k].cmd.length cx] 33)))
              have Hq1 := Lib.hid (Rd.below Hq.out (by decide) (HX2.out.alloc (by exact HX2.out.size) (.cells #[.int .u64 es[k].t, .int .u32 es[k].c, .int .u64 es[k].r, .slice px es[k].cmd.length cx] 33)))
              have HXa := Lib.hid (HX2.out.alloc (by exact HX2.out.size) (.cells #[.int .u64 es[k].t, .int .u32 es[k].c, .int .u64 es[k].r, .slice px es[k].cmd.length cx] 33))
              have Hx1 := Lib.hid (Rd.alloc Hx.out (by decide) (.cells #[.int .u64 es[k].t, .int .u32 es[k].c, .int .u64 es[k].r, .slice px es[k].cmd.length cx] 33))
              have Kx := Lib.hid kx
              have hw2 := kx.lt
              clear kx HX2 H8 Hx Hq
              generalize w2.alloc (.cells #[.int .u64 es[k].t, .int .u32 es[k].c, .int .u64 es[k].r, .slice px es[k].cmd.length cx] 33) = W2 at *
              refine (At_Get_gone H9.out.2.1 okA.out (by omega)).mono ?_
              rintro x w3 ⟨rfl, hX3, -⟩
              have ky := Blk.new w3 33 #[.int .u64 0, .int .u32 0, .int .u64 0, .slice none 0 0]
              have hXb := hX3.alloc (by exact hX3.size) (.cells #[.int .u64 0, .int .u32 0, .int .u64 0, .slice none 0 0] 33)
              have H10 := Lib.hid (H9.out.below hXb)
              have Hq2 := Lib.hid (Rd.below Hq1.out (by decide) hXb)
              have Hx2 := Lib.hid (Rd.below Hx1.out (by decide) hXb)
              have Kx2 := Lib.hid (Blk.below Kx.out hXb)
              have HXc := Lib.hid (HXa.out.trans (hXb.mono HXa.out.size))
              have Ky := Lib.hid ky
              have hw3 := ky.lt
              clear ky hX3 H9 Hq1 Hx1 Kx HXa hXb
              unfold entVal
              go_wp2_with fail
              generalize w3.alloc (.cells #[.int .u64 0, .int .u32 0, .int .u64 0, .slice none 0 0] 33) = W3 at *
              refine (At_Get_none H10.out.2.2 okB.out (by rw [DB.out]; omega)).mono ?_
              rintro x w4 ⟨rfl, hX4, -⟩
              have kz := Blk.new w4 33 #[.int .u64 0, .int .u32 0, .int .u64 0, .slice none 0 0]
              have hXd := hX4.alloc (by exact hX4.size) (.cells #[.int .u64 0, .int .u32 0, .int .u64 0, .slice none 0 0] 33)
              have H11 := Lib.hid (H10.out.below hXd)
              have Hq' := Lib.hid (Rd.below Hq2.out (by decide) hXd)
              have Hx' := Lib.hid (Rd.below Hx2.out (by decide) hXd)
              have Kx' := Lib.hid (Blk.below Kx2.out hXd)
              have Ky' := Lib.hid (Blk.below Ky.out hXd)
              have HXe := HXc.out.trans (hXd.mono HXc.out.size)
              have i0 := (HXe.cell (p := ⟨bb, off + k * 4, none⟩) (lt_of_cell E0.out)).trans E0.out
              have i1 := (HXe.cell (p := ⟨bb, off + k * 4 + 1, none⟩) (lt_of_cell E1.out)).trans E1.out
              have i2 := (HXe.cell (p := ⟨bb, off + k * 4 + 2, none⟩) (lt_of_cell E2.out)).trans E2.out
              have i3 := (HXe.cell (p := ⟨bb, off + k * 4 + 3, none⟩) (lt_of_cell E3.out)).trans E3.out
              have Kz := Lib.hid kz
              have hw4 := kz.lt
              clear kz hX4 H10 Hq2 Hx2 Kx2 Ky HXc HXe hXd
              unfold entVal
              go_wp2_with fail
              generalize w4.alloc (.cells #[.int .u64 0, .int .u32 0, .int .u64 0, .slice none 0 0] 33) = W at *
              obtain ⟨x0, x1, x2, x3, -, -, -, -, -⟩ := Kx'.out.c4
              have hS : Holds [(w2.heap.size, 0, .int .u64 es[k].t), (w2.heap.size, 1, .int .u32 es[k].c), (w2.heap.size, 2, .int .u64 es[k].r), (w2.heap.size, 3, .slice px es[k].cmd.length cx), (bb, off + k * 4, .int .u64 es[k].t), (bb, off + k * 4 + 1, .int .u32 es[k].c), (bb, off + k * 4 + 2, .int .u64 es[k].r), (bb, off + k * 4 + 3, .slice sp es[k].cmd.length sc)] W.drew := ⟨x0, x1, x2, x3, i0, i1, i2, i3, trivial⟩
              have hT : Hold0 W.drew := trivial
              refine begin_D [] (by kernel_rfl) hS (fun _ => hT) ?_
              refine take_S (v := ?v0) 0 rfl (by kernel_rfl) (by kernel_rfl) (by kernel_rfl) (by kernel_rfl) (fun _ _ _ h => h) hS (fun _ => trivial) rfl (fun w' hq => ?h0) ?_
              case h0 => obtain ⟨hq0, hq1, hq2, hq3, hq4, hq5, hq6, hq7, -⟩ := hq; change _ = some _ at hq0; change _ = some _ at hq1; change _ = some _ at hq2; change _ = some _ at hq3; change _ = some _ at hq4; change _ = some _ at hq5; change _ = some _ at hq6; change _ = some _ at hq7; go_simp; try with_reducible rfl
              try simp only [Act.put, List.setIfInBounds_toArray, List.set_cons_zero, List.set_cons_succ, List.getElem_toArray, List.getElem_cons_succ, List.getElem_cons_zero]
              refine take_S (v := ?v1) 1 rfl (by kernel_rfl) (by kernel_rfl) (by kernel_rfl) (by kernel_rfl) (fun _ _ _ h => h) hS (fun _ => trivial) rfl (fun w' hq => ?h1) ?_
              case h1 => obtain ⟨hq0, hq1, hq2, hq3, hq4, hq5, hq6, hq7, -⟩ := hq; change _ = some _ at hq0; change _ = some _ at hq1; change _ = some _ at hq2; change _ = some _ at hq3; change _ = some _ at hq4; change _ = some _ at hq5; change _ = some _ at hq6; change _ = some _ at hq7; go_simp; try with_reducible rfl
              try simp only [Act.put, List.setIfInBounds_toArray, List.set_cons_zero, List.set_cons_succ, List.getElem_toArray, List.getElem_cons_succ, List.getElem_cons_zero]
              refine take_S (v := ?v2) 2 rfl (by kernel_rfl) (by kernel_rfl) (by kernel_rfl) (by kernel_rfl) (fun _ _ _ h => h) hS (fun _ => trivial) rfl (fun w' hq => ?h2) ?_
              case h2 => obtain ⟨hq0, hq1, hq2, hq3, hq4, hq5, hq6, hq7, -⟩ := hq; change _ = some _ at hq0; change _ = some _ at hq1; change _ = some _ at hq2; change _ = some _ at hq3; change _ = some _ at hq4; change _ = some _ at hq5; change _ = some _ at hq6; change _ = some _ at hq7; go_simp; try with_reducible rfl
              try simp only [Act.put, List.setIfInBounds_toArray, List.set_cons_zero, List.set_cons_succ, List.getElem_toArray, List.getElem_cons_succ, List.getElem_cons_zero]
              refine take_S (v := ?v3) 3 rfl (by kernel_rfl) (by kernel_rfl) (by kernel_rfl) (by kernel_rfl) (fun _ _ _ h => h) hS (fun _ => trivial) rfl (fun w' hq => ?h3) ?_
              case h3 => obtain ⟨hq0, hq1, hq2, hq3, hq4, hq5, hq6, hq7, -⟩ := hq; change _ = some _ at hq0; change _ = some _ at hq1; change _ = some _ at hq2; change _ = some _ at hq3; change _ = some _ at hq4; change _ = some _ at hq5; change _ = some _ at hq6; change _ = some _ at hq7; go_simp; try with_reducible rfl
              try simp only [Act.put, List.setIfInBounds_toArray, List.set_cons_zero, List.set_cons_succ, List.getElem_toArray, List.getElem_cons_succ, List.getElem_cons_zero]
              refine take_S (v := ?v4) 4 rfl (by kernel_rfl) (by kernel_rfl) (by kernel_rfl) (by kernel_rfl) (fun _ _ _ h => h) hS (fun _ => trivial) rfl (fun w' hq => ?h4) ?_
              case h4 => obtain ⟨hq0, hq1, hq2, hq3, hq4, hq5, hq6, hq7, -⟩ := hq; change _ = some _ at hq0; change _ = some _ at hq1; change _ = some _ at hq2; change _ = some _ at hq3; change _ = some _ at hq4; change _ = some _ at hq5; change _ = some _ at hq6; change _ = some _ at hq7; go_simp; try with_reducible rfl
              try simp only [Act.put, List.setIfInBounds_toArray, List.set_cons_zero, List.set_cons_succ, List.getElem_toArray, List.getElem_cons_succ, List.getElem_cons_zero]
              refine take_S (v := ?v5) 5 rfl (by kernel_rfl) (by kernel_rfl) (by kernel_rfl) (by kernel_rfl) (fun _ _ _ h => h) hS (fun _ => trivial) rfl (fun w' hq => ?h5) ?_
              case h5 => obtain ⟨hq0, hq1, hq2, hq3, hq4, hq5, hq6, hq7, -⟩ := hq; change _ = some _ at hq0; change _ = some _ at hq1; change _ = some _ at hq2; change _ = some _ at hq3; change _ = some _ at hq4; change _ = some _ at hq5; change _ = some _ at hq6; change _ = some _ at hq7; go_simp; try with_reducible rfl
              try simp only [Act.put, List.setIfInBounds_toArray, List.set_cons_zero, List.set_cons_succ, List.getElem_toArray, List.getElem_cons_succ, List.getElem_cons_zero]
              refine take_S (v := ?v6) 6 rfl (by kernel_rfl) (by kernel_rfl) (by kernel_rfl) (by kernel_rfl) (fun _ _ _ h => h) hS (fun _ => trivial) rfl (fun w' hq => ?h6) ?_
              case h6 => obtain ⟨hq0, hq1, hq2, hq3, hq4, hq5, hq6, hq7, -⟩ := hq; change _ = some _ at hq0; change _ = some _ at hq1; change _ = some _ at hq2; change _ = some _ at hq3; change _ = some _ at hq4; change _ = some _ at hq5; change _ = some _ at hq6; change _ = some _ at hq7; go_simp; try with_reducible rfl
              try simp only [Act.put, List.setIfInBounds_toArray, List.set_cons_zero, List.set_cons_succ, List.getElem_toArray, List.getElem_cons_succ, List.getElem_cons_zero]
              refine take_S (v := ?v7) 7 rfl (by kernel_rfl) (by kernel_rfl) (by kernel_rfl) (by kernel_rfl) (fun _ _ _ h => h) hS (fun _ => trivial) rfl (fun w' hq => ?h7) ?_
              case h7 => obtain ⟨hq0, hq1, hq2, hq3, hq4, hq5, hq6, hq7, -⟩ := hq; change _ = some _ at hq0; change _ = some _ at hq1; change _ = some _ at hq2; change _ = some _ at hq3; change _ = some _ at hq4; change _ = some _ at hq5; change _ = some _ at hq6; change _ = some _ at hq7; go_simp; try with_reducible rfl
              try simp only [Act.put, List.setIfInBounds_toArray, List.set_cons_zero, List.set_cons_succ, List.getElem_toArray, List.getElem_cons_succ, List.getElem_cons_zero]
              refine one_D 8 rfl (by kernel_rfl) (fun KQ hK => ?_)
              go_simp
              refine (log_Same (e := es[k]) (f := es[k]) (Rd.drew Hx'.out) (Rd.drew Hq'.out)).mono ?_
              rintro x w5 ⟨rfl, hX5⟩
              rw [sameB_self]
              have g : ∀ b o v, W.cell? ⟨b, o, none⟩ = some v → w5.cell? ⟨b, o, none⟩ = some v := fun b o v h => (hX5.cell (p := ⟨b, o, none⟩) (lt_of_cell h)).trans h
              have hS1 : Holds [(w2.heap.size, 0, .int .u64 es[k].t), (w2.heap.size, 1, .int .u32 es[k].c), (w2.heap.size, 2, .int .u64 es[k].r), (w2.heap.size, 3, .slice px es[k].cmd.length cx), (bb, off + k * 4, .int .u64 es[k].t), (bb, off + k * 4 + 1, .int .u32 es[k].c), (bb, off + k * 4 + 2, .int .u64 es[k].r), (bb, off + k * 4 + 3, .slice sp es[k].cmd.length sc)] w5 := ⟨g _ _ _ x0, g _ _ _ x1, g _ _ _ x2, g _ _ _ x3, g _ _ _ i0, g _ _ _ i1, g _ _ _ i2, g _ _ _ i3, trivial⟩
              have HX5 := Lib.hid ((below_drewN (Below.refl _ W) 1).trans hX5)
              refine hK.out _ _ hS1 (fun _ => trivial) ?_
              clear hK hS hX5 g
              refine take_S (v := ?v9) 9 rfl (by kernel_rfl) (by kernel_rfl) (by kernel_rfl) (by kernel_rfl) (fun _ _ _ h => h) hS1 (fun _ => trivial) rfl (fun w' hq => ?h9) ?_
              case h9 => obtain ⟨hq0, hq1, hq2, hq3, hq4, hq5, hq6, hq7, -⟩ := hq; change _ = some _ at hq0; change _ = some _ at hq1; change _ = some _ at hq2; change _ = some _ at hq3; change _ = some _ at hq4; change _ = some _ at hq5; change _ = some _ at hq6; change _ = some _ at hq7; go_simp; try with_reducible rfl
              try simp only [Act.put, List.setIfInBounds_toArray, List.set_cons_zero, List.set_cons_succ, List.getElem_toArray, List.getElem_cons_succ, List.getElem_cons_zero]
              refine take_S (v := ?v10) 10 rfl (by kernel_rfl) (by kernel_rfl) (by kernel_rfl) (by kernel_rfl) (fun _ _ _ h => h) hS1 (fun _ => trivial) rfl (fun w' hq => ?h10) ?_
              case h10 => obtain ⟨hq0, hq1, hq2, hq3, hq4, hq5, hq6, hq7, -⟩ := hq; change _ = some _ at hq0; change _ = some _ at hq1; change _ = some _ at hq2; change _ = some _ at hq3; change _ = some _ at hq4; change _ = some _ at hq5; change _ = some _ at hq6; change _ = some _ at hq7; go_simp; try with_reducible rfl
              try simp only [Act.put, List.setIfInBounds_toArray, List.set_cons_zero, List.set_cons_succ, List.getElem_toArray, List.getElem_cons_succ, List.getElem_cons_zero]
              refine done_D (by kernel_rfl) ?_ _
              clear hS1 x0 x1 x2 x3 i0 i1 i2 i3
              have H12 := Lib.hid (H11.out.below HX5.out)
              have Kx5 := Lib.hid (Blk.below Kx'.out HX5.out)
              have Ky5 := Lib.hid (Blk.below Ky'.out HX5.out)
              have Kz5 := Lib.hid (Blk.below Kz.out HX5.out)
              have Hx5 := Lib.hid (Rd.below Hx'.out (by decide) HX5.out)
              clear HX5 H11 Kx' Ky' Kz Hx' Hq' hT
              obtain ⟨x0, x1, x2, x3, -, -, -, -, hxz⟩ := Kx5.out.c4
              obtain ⟨y0, y1, y2, y3, -, -, -, -, hyz⟩ := Ky5.out.c4
              obtain ⟨z0, z1, z2, z3, -, -, -, -, hzz⟩ := Kz5.out.c4
              have d1 : decide (m1 + (K : Int) < m1 + (k : Int) + 1) = false := by simp; omega
              have d2 : decide (m1 + (k : Int) + 1 ≤ m1 + (K : Int)) = true := by simp; omega
              have d3 : decide (m1 + (k : Int) + 1 ≤ m1 + (T : Int)) = false := by simp; omega
              have d4 : decide (m1 + (T : Int) < m1 + (k : Int) + 1) = true := by simp; omega
              go_wp2_with fail
              clear d1 d2 d3 d4
              go_roundw
              case rel => exact ⟨k + 1, by omega, by go_num, H12.out⟩
              case measure => simp [intOf]; omega
          · by_cases hkT : k < T
            · go_wp2_with fail
              have kx := Blk.new w2 33 #[.int .u64 es[k].t, .int .u32 es[k].c, .int .u64 es[k].r, .slice px es[k].cmd.length cx]
              have H9 := Lib.hid (H8.out.below ((Below.refl _ w2).alloc (Nat.le_refl _) (.cells #[.int .u64 es[k].t, .int .u32 es[k].c, .int .u64 es[k].r, .slice px es[k].cmd.length cx] 33)))
              have Hq1 := Lib.hid (Rd.below Hq.out (by decide) (HX2.out.alloc (by exact HX2.out.size) (.cells #[.int .u64 es[k].t, .int .u32 es[k].c, .int .u64 es[k].r, .slice px es[k].cmd.length cx] 33)))
              have HXa := Lib.hid (HX2.out.alloc (by exact HX2.out.size) (.cells #[.int .u64 es[k].t, .int .u32 es[k].c, .int .u64 es[k].r, .slice px es[k].cmd.length cx] 33))
              have Hx1 := Lib.hid (Rd.alloc Hx.out (by decide) (.cells #[.int .u64 es[k].t, .int .u32 es[k].c, .int .u64 es[k].r, .slice px es[k].cmd.length cx] 33))
              have Kx := Lib.hid kx
              have hw2 := kx.lt
              clear kx HX2 H8 Hx Hq
              generalize w2.alloc (.cells #[.int .u64 es[k].t, .int .u32 es[k].c, .int .u64 es[k].r, .slice px es[k].cmd.length cx] 33) = W2 at *
              refine (At_Get' (j := k - K) (e := es[k]) H9.out.2.1 okA.out (by rw [List.getElem?_drop, show K + (k - K) = k by omega]; exact Hfk.out) (by omega)).mono ?_
              rintro x w3 ⟨py, cy, rfl, hoy, hX3⟩
              have Hy := Lib.hid (Rd.of_own hoy)
              clear hoy
              have ky := Blk.new w3 33 #[.int .u64 es[k].t, .int .u32 es[k].c, .int .u64 es[k].r, .slice py es[k].cmd.length cy]
              have hXb := hX3.alloc (by exact hX3.size) (.cells #[.int .u64 es[k].t, .int .u32 es[k].c, .int .u64 es[k].r, .slice py es[k].cmd.length cy] 33)
              have H10 := Lib.hid (H9.out.below hXb)
              have Hq2 := Lib.hid (Rd.below Hq1.out (by decide) hXb)
              have Hx2 := Lib.hid (Rd.below Hx1.out (by decide) hXb)
              have Kx2 := Lib.hid (Blk.below Kx.out hXb)
              have Hy1 := Lib.hid (Rd.alloc Hy.out (by decide) (.cells #[.int .u64 es[k].t, .int .u32 es[k].c, .int .u64 es[k].r, .slice py es[k].cmd.length cy] 33))
              have HXc := Lib.hid (HXa.out.trans (hXb.mono HXa.out.size))
              have Ky := Lib.hid ky
              have hw3 := ky.lt
              clear ky hX3 H9 Hq1 Hx1 Kx HXa hXb Hy
              unfold entVal
              go_wp2_with fail
              generalize w3.alloc (.cells #[.int .u64 es[k].t, .int .u32 es[k].c, .int .u64 es[k].r, .slice py es[k].cmd.length cy] 33) = W3 at *
              refine (At_Get' (j := k) (e := es[k]) H10.out.2.2 okB.out (by rw [List.getElem?_take, if_pos hkT]; exact Hfk.out) (by omega)).mono ?_
              rintro x w4 ⟨pz, cz, rfl, hoz, hX4⟩
              have Hz := Lib.hid (Rd.of_own hoz)
              clear hoz
              have kz := Blk.new w4 33 #[.int .u64 es[k].t, .int .u32 es[k].c, .int .u64 es[k].r, .slice pz es[k].cmd.length cz]
              have hXd := hX4.alloc (by exact hX4.size) (.cells #[.int .u64 es[k].t, .int .u32 es[k].c, .int .u64 es[k].r, .slice pz es[k].cmd.length cz] 33)
              have H11 := Lib.hid (H10.out.below hXd)
              have Hq' := Lib.hid (Rd.below Hq2.out (by decide) hXd)
              have Hx' := Lib.hid (Rd.below Hx2.out (by decide) hXd)
              have Kx' := Lib.hid (Blk.below Kx2.out hXd)
              have Ky' := Lib.hid (Blk.below Ky.out hXd)
              have Hy' := Lib.hid (Rd.below Hy1.out (by decide) hXd)
              have Hz' := Lib.hid (Rd.alloc Hz.out (by decide) (.cells #[.int .u64 es[k].t, .int .u32 es[k].c, .int .u64 es[k].r, .slice pz es[k].cmd.length cz] 33))
              have HXe := HXc.out.trans (hXd.mono HXc.out.size)
              have i0 := (HXe.cell (p := ⟨bb, off + k * 4, none⟩) (lt_of_cell E0.out)).trans E0.out
              have i1 := (HXe.cell (p := ⟨bb, off + k * 4 + 1, none⟩) (lt_of_cell E1.out)).trans E1.out
              have i2 := (HXe.cell (p := ⟨bb, off + k * 4 + 2, none⟩) (lt_of_cell E2.out)).trans E2.out
              have i3 := (HXe.cell (p := ⟨bb, off + k * 4 + 3, none⟩) (lt_of_cell E3.out)).trans E3.out
              have Kz := Lib.hid kz
              have hw4 := kz.lt
              clear kz hX4 H10 Hq2 Hx2 Kx2 Ky HXc HXe hXd Hy1 Hz
              unfold entVal
              go_wp2_with fail
              generalize w4.alloc (.cells #[.int .u64 es[k].t, .int .u32 es[k].c, .int .u64 es[k].r, .slice pz es[k].cmd.length cz] 33) = W at *
              obtain ⟨x0, x1, x2, x3, -, -, -, -, -⟩ := Kx'.out.c4
              have hS : Holds [(w2.heap.size, 0, .int .u64 es[k].t), (w2.heap.size, 1, .int .u32 es[k].c), (w2.heap.size, 2, .int .u64 es[k].r), (w2.heap.size, 3, .slice px es[k].cmd.length cx), (bb, off + k * 4, .int .u64 es[k].t), (bb, off + k * 4 + 1, .int .u32 es[k].c), (bb, off + k * 4 + 2, .int .u64 es[k].r), (bb, off + k * 4 + 3, .slice sp es[k].cmd.length sc)] W.drew := ⟨x0, x1, x2, x3, i0, i1, i2, i3, trivial⟩
              have hT : Hold0 W.drew := trivial
              refine begin_D [] (by kernel_rfl) hS (fun _ => hT) ?_
              refine take_S (v := ?v0) 0 rfl (by kernel_rfl) (by kernel_rfl) (by kernel_rfl) (by kernel_rfl) (fun _ _ _ h => h) hS (fun _ => trivial) rfl (fun w' hq => ?h0) ?_
              case h0 => obtain ⟨hq0, hq1, hq2, hq3, hq4, hq5, hq6, hq7, -⟩ := hq; change _ = some _ at hq0; change _ = some _ at hq1; change _ = some _ at hq2; change _ = some _ at hq3; change _ = some _ at hq4; change _ = some _ at hq5; change _ = some _ at hq6; change _ = some _ at hq7; go_simp; try with_reducible rfl
              try simp only [Act.put, List.setIfInBounds_toArray, List.set_cons_zero, List.set_cons_succ, List.getElem_toArray, List.getElem_cons_succ, List.getElem_cons_zero]
              refine take_S (v := ?v1) 1 rfl (by kernel_rfl) (by kernel_rfl) (by kernel_rfl) (by kernel_rfl) (fun _ _ _ h => h) hS (fun _ => trivial) rfl (fun w' hq => ?h1) ?_
              case h1 => obtain ⟨hq0, hq1, hq2, hq3, hq4, hq5, hq6, hq7, -⟩ := hq; change _ = some _ at hq0; change _ = some _ at hq1; change _ = some _ at hq2; change _ = some _ at hq3; change _ = some _ at hq4; change _ = some _ at hq5; change _ = some _ at hq6; change _ = some _ at hq7; go_simp; try with_reducible rfl
              try simp only [Act.put, List.setIfInBounds_toArray, List.set_cons_zero, List.set_cons_succ, List.getElem_toArray, List.getElem_cons_succ, List.getElem_cons_zero]
              refine take_S (v := ?v2) 2 rfl (by kernel_rfl) (by kernel_rfl) (by kernel_rfl) (by kernel_rfl) (fun _ _ _ h => h) hS (fun _ => trivial) rfl (fun w' hq => ?h2) ?_
              case h2 => obtain ⟨hq0, hq1, hq2, hq3, hq4, hq5, hq6, hq7, -⟩ := hq; change _ = some _ at hq0; change _ = some _ at hq1; change _ = some _ at hq2; change _ = some _ at hq3; change _ = some _ at hq4; change _ = some _ at hq5; change _ = some _ at hq6; change _ = some _ at hq7; go_simp; try with_reducible rfl
              try simp only [Act.put, List.setIfInBounds_toArray, List.set_cons_zero, List.set_cons_succ, List.getElem_toArray, List.getElem_cons_succ, List.getElem_cons_zero]
              refine take_S (v := ?v3) 3 rfl (by kernel_rfl) (by kernel_rfl) (by kernel_rfl) (by kernel_rfl) (fun _ _ _ h => h) hS (fun _ => trivial) rfl (fun w' hq => ?h3) ?_
              case h3 => obtain ⟨hq0, hq1, hq2, hq3, hq4, hq5, hq6, hq7, -⟩ := hq; change _ = some _ at hq0; change _ = some _ at hq1; change _ = some _ at hq2; change _ = some _ at hq3; change _ = some _ at hq4; change _ = some _ at hq5; change _ = some _ at hq6; change _ = some _ at hq7; go_simp; try with_reducible rfl
              try simp only [Act.put, List.setIfInBounds_toArray, List.set_cons_zero, List.set_cons_succ, List.getElem_toArray, List.getElem_cons_succ, List.getElem_cons_zero]
              refine take_S (v := ?v4) 4 rfl (by kernel_rfl) (by kernel_rfl) (by kernel_rfl) (by kernel_rfl) (fun _ _ _ h => h) hS (fun _ => trivial) rfl (fun w' hq => ?h4) ?_
              case h4 => obtain ⟨hq0, hq1, hq2, hq3, hq4, hq5, hq6, hq7, -⟩ := hq; change _ = some _ at hq0; change _ = some _ at hq1; change _ = some _ at hq2; change _ = some _ at hq3; change _ = some _ at hq4; change _ = some _ at hq5; change _ = some _ at hq6; change _ = some _ at hq7; go_simp; try with_reducible rfl
              try simp only [Act.put, List.setIfInBounds_toArray, List.set_cons_zero, List.set_cons_succ, List.getElem_toArray, List.getElem_cons_succ, List.getElem_cons_zero]
              refine take_S (v := ?v5) 5 rfl (by kernel_rfl) (by kernel_rfl) (by kernel_rfl) (by kernel_rfl) (fun _ _ _ h => h) hS (fun _ => trivial) rfl (fun w' hq => ?h5) ?_
              case h5 => obtain ⟨hq0, hq1, hq2, hq3, hq4, hq5, hq6, hq7, -⟩ := hq; change _ = some _ at hq0; change _ = some _ at hq1; change _ = some _ at hq2; change _ = some _ at hq3; change _ = some _ at hq4; change _ = some _ at hq5; change _ = some _ at hq6; change _ = some _ at hq7; go_simp; try with_reducible rfl
              try simp only [Act.put, List.setIfInBounds_toArray, List.set_cons_zero, List.set_cons_succ, List.getElem_toArray, List.getElem_cons_succ, List.getElem_cons_zero]
              refine take_S (v := ?v6) 6 rfl (by kernel_rfl) (by kernel_rfl) (by kernel_rfl) (by kernel_rfl) (fun _ _ _ h => h) hS (fun _ => trivial) rfl (fun w' hq => ?h6) ?_
              case h6 => obtain ⟨hq0, hq1, hq2, hq3, hq4, hq5, hq6, hq7, -⟩ := hq; change _ = some _ at hq0; change _ = some _ at hq1; change _ = some _ at hq2; change _ = some _ at hq3; change _ = some _ at hq4; change _ = some _ at hq5; change _ = some _ at hq6; change _ = some _ at hq7; go_simp; try with_reducible rfl
              try simp only [Act.put, List.setIfInBounds_toArray, List.set_cons_zero, List.set_cons_succ, List.getElem_toArray, List.getElem_cons_succ, List.getElem_cons_zero]
              refine take_S (v := ?v7) 7 rfl (by kernel_rfl) (by kernel_rfl) (by kernel_rfl) (by kernel_rfl) (fun _ _ _ h => h) hS (fun _ => trivial) rfl (fun w' hq => ?h7) ?_
              case h7 => obtain ⟨hq0, hq1, hq2, hq3, hq4, hq5, hq6, hq7, -⟩ := hq; change _ = some _ at hq0; change _ = some _ at hq1; change _ = some _ at hq2; change _ = some _ at hq3; change _ = some _ at hq4; change _ = some _ at hq5; change _ = some _ at hq6; change _ = some _ at hq7; go_simp; try with_reducible rfl
              try simp only [Act.put, List.setIfInBounds_toArray, List.set_cons_zero, List.set_cons_succ, List.getElem_toArray, List.getElem_cons_succ, List.getElem_cons_zero]
              refine one_D 8 rfl (by kernel_rfl) (fun KQ hK => ?_)
              go_simp
              refine (log_Same (e := es[k]) (f := es[k]) (Rd.drew Hx'.out) (Rd.drew Hq'.out)).mono ?_
              rintro x w5 ⟨rfl, hX5⟩
              rw [sameB_self]
              have g : ∀ b o v, W.cell? ⟨b, o, none⟩ = some v → w5.cell? ⟨b, o, none⟩ = some v := fun b o v h => (hX5.cell (p := ⟨b, o, none⟩) (lt_of_cell h)).trans h
              have hS1 : Holds [(w2.heap.size, 0, .int .u64 es[k].t), (w2.heap.size, 1, .int .u32 es[k].c), (w2.heap.size, 2, .int .u64 es[k].r), (w2.heap.size, 3, .slice px es[k].cmd.length cx), (bb, off + k * 4, .int .u64 es[k].t), (bb, off + k * 4 + 1, .int .u32 es[k].c), (bb, off + k * 4 + 2, .int .u64 es[k].r), (bb, off + k * 4 + 3, .slice sp es[k].cmd.length sc)] w5 := ⟨g _ _ _ x0, g _ _ _ x1, g _ _ _ x2, g _ _ _ x3, g _ _ _ i0, g _ _ _ i1, g _ _ _ i2, g _ _ _ i3, trivial⟩
              have HX5 := Lib.hid ((below_drewN (Below.refl _ W) 1).trans hX5)
              refine hK.out _ _ hS1 (fun _ => trivial) ?_
              clear hK hS hX5 g
              refine take_S (v := ?v9) 9 rfl (by kernel_rfl) (by kernel_rfl) (by kernel_rfl) (by kernel_rfl) (fun _ _ _ h => h) hS1 (fun _ => trivial) rfl (fun w' hq => ?h9) ?_
              case h9 => obtain ⟨hq0, hq1, hq2, hq3, hq4, hq5, hq6, hq7, -⟩ := hq; change _ = some _ at hq0; change _ = some _ at hq1; change _ = some _ at hq2; change _ = some _ at hq3; change _ = some _ at hq4; change _ = some _ at hq5; change _ = some _ at hq6; change _ = some _ at hq7; go_simp; try with_reducible rfl
              try simp only [Act.put, List.setIfInBounds_toArray, List.set_cons_zero, List.set_cons_succ, List.getElem_toArray, List.getElem_cons_succ, List.getElem_cons_zero]
              refine take_S (v := ?v10) 10 rfl (by kernel_rfl) (by kernel_rfl) (by kernel_rfl) (by kernel_rfl) (fun _ _ _ h => h) hS1 (fun _ => trivial) rfl (fun w' hq => ?h10) ?_
              case h10 => obtain ⟨hq0, hq1, hq2, hq3, hq4, hq5, hq6, hq7, -⟩ := hq; change _ = some _ at hq0; change _ = some _ at hq1; change _ = some _ at hq2; change _ = some _ at hq3; change _ = some _ at hq4; change _ = some _ at hq5; change _ = some _ at hq6; change _ = some _ at hq7; go_simp; try with_reducible rfl
              try simp only [Act.put, List.setIfInBounds_toArray, List.set_cons_zero, List.set_cons_succ, List.getElem_toArray, List.getElem_cons_succ, List.getElem_cons_zero]
              refine done_D (by kernel_rfl) ?_ _
              clear hS1 x0 x1 x2 x3 i0 i1 i2 i3
              have H12 := Lib.hid (H11.out.below HX5.out)
              have Kx5 := Lib.hid (Blk.below Kx'.out HX5.out)
              have Ky5 := Lib.hid (Blk.below Ky'.out HX5.out)
              have Kz5 := Lib.hid (Blk.below Kz.out HX5.out)
              have Hx5 := Lib.hid (Rd.below Hx'.out (by decide) HX5.out)
              have Hy5 := Lib.hid (Rd.below Hy'.out (by decide) HX5.out)
              have Hz5 := Lib.hid (Rd.below Hz'.out (by decide) HX5.out)
              clear HX5 H11 Kx' Ky' Kz Hx' Hq' hT Hy' Hz'
              obtain ⟨x0, x1, x2, x3, -, -, -, -, hxz⟩ := Kx5.out.c4
              obtain ⟨y0, y1, y2, y3, -, -, -, -, hyz⟩ := Ky5.out.c4
              obtain ⟨z0, z1, z2, z3, -, -, -, -, hzz⟩ := Kz5.out.c4
              have d1 : decide (m1 + (K : Int) < m1 + (k : Int) + 1) = true := by simp; omega
              have d2 : decide (m1 + (k : Int) + 1 ≤ m1 + (K : Int)) = false := by simp; omega
              have d3 : decide (m1 + (k : Int) + 1 ≤ m1 + (T : Int)) = true := by simp; omega
              have d4 : decide (m1 + (T : Int) < m1 + (k : Int) + 1) = false := by simp; omega
              go_wp2_with fail
              refine (log_Same (e := es[k]) (f := es[k]) Hx5.out Hy5.out).mono ?_
              rintro x w6 ⟨rfl, hX6⟩
              rw [sameB_self]
              have H13 := Lib.hid (H12.out.below hX6)
              have Kx6 := Lib.hid (Blk.below Kx5.out hX6)
              have Kz6 := Lib.hid (Blk.below Kz5.out hX6)
              have Hx6 := Lib.hid (Rd.below Hx5.out (by decide) hX6)
              have Hz6 := Lib.hid (Rd.below Hz5.out (by decide) hX6)
              clear hX6 H12 Kx5 Ky5 Kz5 Hx5 Hy5 x0 x1 x2 x3 y0 y1 y2 y3 z0 z1 z2 z3 Hz5
              obtain ⟨x0, x1, x2, x3, -, -, -, -, hxz⟩ := Kx6.out.c4
              obtain ⟨z0, z1, z2, z3, -, -, -, -, hzz⟩ := Kz6.out.c4
              go_wp2_with fail
              refine (log_Same (e := es[k]) (f := es[k]) Hx6.out Hz6.out).mono ?_
              rintro x w7 ⟨rfl, hX7⟩
              rw [sameB_self]
              have H14 := Lib.hid (H13.out.below hX7)
              clear hX7 H13
              go_wp2_with fail
              clear d1 d2 d3 d4
              go_roundw
              case rel => exact ⟨k + 1, by omega, by go_num, H14.out⟩
              case measure => simp [intOf]; omega
            · go_wp2_with fail
              have kx := Blk.new w2 33 #[.int .u64 es[k].t, .int .u32 es[k].c, .int .u64 es[k].r, .slice px es[k].cmd.length cx]
              have H9 := Lib.hid (H8.out.below ((Below.refl _ w2).alloc (Nat.le_refl _) (.cells #[.int .u64 es[k].t, .int .u32 es[k].c, .int .u64 es[k].r, .slice px es[k].cmd.length cx] 33)))
              have Hq1 := Lib.hid (Rd.below Hq.out (by decide) (HX2.out.alloc (by exact HX2.out.size) (.cells #[.int .u64 es[k].t, .int .u32 es[k].c, .int .u64 es[k].r, .slice px es[k].cmd.length cx] 33)))
              have HXa := Lib.hid (HX2.out.alloc (by exact HX2.out.size) (.cells #[.int .u64 es[k].t, .int .u32 es[k].c, .int .u64 es[k].r, .slice px es[k].cmd.length cx] 33))
              have Hx1 := Lib.hid (Rd.alloc Hx.out (by decide) (.cells #[.int .u64 es[k].t, .int .u32 es[k].c, .int .u64 es[k].r, .slice px es[k].cmd.length cx] 33))
              have Kx := Lib.hid kx
              have hw2 := kx.lt
              clear kx HX2 H8 Hx Hq
              generalize w2.alloc (.cells #[.int .u64 es[k].t, .int .u32 es[k].c, .int .u64 es[k].r, .slice px es[k].cmd.length cx] 33) = W2 at *
              refine (At_Get' (j := k - K) (e := es[k]) H9.out.2.1 okA.out (by rw [List.getElem?_drop, show K + (k - K) = k by omega]; exact Hfk.out) (by omega)).mono ?_
              rintro x w3 ⟨py, cy, rfl, hoy, hX3⟩
              have Hy := Lib.hid (Rd.of_own hoy)
              clear hoy
              have ky := Blk.new w3 33 #[.int .u64 es[k].t, .int .u32 es[k].c, .int .u64 es[k].r, .slice py es[k].cmd.length cy]
              have hXb := hX3.alloc (by exact hX3.size) (.cells #[.int .u64 es[k].t, .int .u32 es[k].c, .int .u64 es[k].r, .slice py es[k].cmd.length cy] 33)
              have H10 := Lib.hid (H9.out.below hXb)
              have Hq2 := Lib.hid (Rd.below Hq1.out (by decide) hXb)
              have Hx2 := Lib.hid (Rd.below Hx1.out (by decide) hXb)
              have Kx2 := Lib.hid (Blk.below Kx.out hXb)
              have Hy1 := Lib.hid (Rd.alloc Hy.out (by decide) (.cells #[.int .u64 es[k].t, .int .u32 es[k].c, .int .u64 es[k].r, .slice py es[k].cmd.length cy] 33))
              have HXc := Lib.hid (HXa.out.trans (hXb.mono HXa.out.size))
              have Ky := Lib.hid ky
              have hw3 := ky.lt
              clear ky hX3 H9 Hq1 Hx1 Kx HXa hXb Hy
              unfold entVal
              go_wp2_with fail
              generalize w3.alloc (.cells #[.int .u64 es[k].t, .int .u32 es[k].c, .int .u64 es[k].r, .slice py es[k].cmd.length cy] 33) = W3 at *
              refine (At_Get_none H10.out.2.2 okB.out (by rw [DB.out]; omega)).mono ?_
              rintro x w4 ⟨rfl, hX4, -⟩
              have kz := Blk.new w4 33 #[.int .u64 0, .int .u32 0, .int .u64 0, .slice none 0 0]
              have hXd := hX4.alloc (by exact hX4.size) (.cells #[.int .u64 0, .int .u32 0, .int .u64 0, .slice none 0 0] 33)
              have H11 := Lib.hid (H10.out.below hXd)
              have Hq' := Lib.hid (Rd.below Hq2.out (by decide) hXd)
              have Hx' := Lib.hid (Rd.below Hx2.out (by decide) hXd)
              have Kx' := Lib.hid (Blk.below Kx2.out hXd)
              have Ky' := Lib.hid (Blk.below Ky.out hXd)
              have Hy' := Lib.hid (Rd.below Hy1.out (by decide) hXd)
              have HXe := HXc.out.trans (hXd.mono HXc.out.size)
              have i0 := (HXe.cell (p := ⟨bb, off + k * 4, none⟩) (lt_of_cell E0.out)).trans E0.out
              have i1 := (HXe.cell (p := ⟨bb, off + k * 4 + 1, none⟩) (lt_of_cell E1.out)).trans E1.out
              have i2 := (HXe.cell (p := ⟨bb, off + k * 4 + 2, none⟩) (lt_of_cell E2.out)).trans E2.out
              have i3 := (HXe.cell (p := ⟨bb, off + k * 4 + 3, none⟩) (lt_of_cell E3.out)).trans E3.out
              have Kz := Lib.hid kz
              have hw4 := kz.lt
              clear kz hX4 H10 Hq2 Hx2 Kx2 Ky HXc HXe hXd Hy1
              unfold entVal
              go_wp2_with fail
              generalize w4.alloc (.cells #[.int .u64 0, .int .u32 0, .int .u64 0, .slice none 0 0] 33) = W at *
              obtain ⟨x0, x1, x2, x3, -, -, -, -, -⟩ := Kx'.out.c4
              have hS : Holds [(w2.heap.size, 0, .int .u64 es[k].t), (w2.heap.size, 1, .int .u32 es[k].c), (w2.heap.size, 2, .int .u64 es[k].r), (w2.heap.size, 3, .slice px es[k].cmd.length cx), (bb, off + k * 4, .int .u64 es[k].t), (bb, off + k * 4 + 1, .int .u32 es[k].c), (bb, off + k * 4 + 2, .int .u64 es[k].r), (bb, off + k * 4 + 3, .slice sp es[k].cmd.length sc)] W.drew := ⟨x0, x1, x2, x3, i0, i1, i2, i3, trivial⟩
              have hT : Hold0 W.drew := trivial
              refine begin_D [] (by kernel_rfl) hS (fun _ => hT) ?_
              refine take_S (v := ?v0) 0 rfl (by kernel_rfl) (by kernel_rfl) (by kernel_rfl) (by kernel_rfl) (fun _ _ _ h => h) hS (fun _ => trivial) rfl (fun w' hq => ?h0) ?_
              case h0 => obtain ⟨hq0, hq1, hq2, hq3, hq4, hq5, hq6, hq7, -⟩ := hq; change _ = some _ at hq0; change _ = some _ at hq1; change _ = some _ at hq2; change _ = some _ at hq3; change _ = some _ at hq4; change _ = some _ at hq5; change _ = some _ at hq6; change _ = some _ at hq7; go_simp; try with_reducible rfl
              try simp only [Act.put, List.setIfInBounds_toArray, List.set_cons_zero, List.set_cons_succ, List.getElem_toArray, List.getElem_cons_succ, List.getElem_cons_zero]
              refine take_S (v := ?v1) 1 rfl (by kernel_rfl) (by kernel_rfl) (by kernel_rfl) (by kernel_rfl) (fun _ _ _ h => h) hS (fun _ => trivial) rfl (fun w' hq => ?h1) ?_
              case h1 => obtain ⟨hq0, hq1, hq2, hq3, hq4, hq5, hq6, hq7, -⟩ := hq; change _ = some _ at hq0; change _ = some _ at hq1; change _ = some _ at hq2; change _ = some _ at hq3; change _ = some _ at hq4; change _ = some _ at hq5; change _ = some _ at hq6; change _ = some _ at hq7; go_simp; try with_reducible rfl
              try simp only [Act.put, List.setIfInBounds_toArray, List.set_cons_zero, List.set_cons_succ, List.getElem_toArray, List.getElem_cons_succ, List.getElem_cons_zero]
              refine take_S (v := ?v2) 2 rfl (by kernel_rfl) (by kernel_rfl) (by kernel_rfl) (by kernel_rfl) (fun _ _ _ h => h) hS (fun _ => trivial) rfl (fun w' hq => ?h2) ?_
              case h2 => obtain ⟨hq0, hq1, hq2, hq3, hq4, hq5, hq6, hq7, -⟩ := hq; change _ = some _ at hq0; change _ = some _ at hq1; change _ = some _ at hq2; change _ = some _ at hq3; change _ = some _ at hq4; change _ = some _ at hq5; change _ = some _ at hq6; change _ = some _ at hq7; go_simp; try with_reducible rfl
              try simp only [Act.put, List.setIfInBounds_toArray, List.set_cons_zero, List.set_cons_succ, List.getElem_toArray, List.getElem_cons_succ, List.getElem_cons_zero]
              refine take_S (v := ?v3) 3 rfl (by kernel_rfl) (by kernel_rfl) (by kernel_rfl) (by kernel_rfl) (fun _ _ _ h => h) hS (fun _ => trivial) rfl (fun w' hq => ?h3) ?_
              case h3 => obtain ⟨hq0, hq1, hq2, hq3, hq4, hq5, hq6, hq7, -⟩ := hq; change _ = some _ at hq0; change _ = some _ at hq1; change _ = some _ at hq2; change _ = some _ at hq3; change _ = some _ at hq4; change _ = some _ at hq5; change _ = some _ at hq6; change _ = some _ at hq7; go_simp; try with_reducible rfl
              try simp only [Act.put, List.setIfInBounds_toArray, List.set_cons_zero, List.set_cons_succ, List.getElem_toArray, List.getElem_cons_succ, List.getElem_cons_zero]
              refine take_S (v := ?v4) 4 rfl (by kernel_rfl) (by kernel_rfl) (by kernel_rfl) (by kernel_rfl) (fun _ _ _ h => h) hS (fun _ => trivial) rfl (fun w' hq => ?h4) ?_
              case h4 => obtain ⟨hq0, hq1, hq2, hq3, hq4, hq5, hq6, hq7, -⟩ := hq; change _ = some _ at hq0; change _ = some _ at hq1; change _ = some _ at hq2; change _ = some _ at hq3; change _ = some _ at hq4; change _ = some _ at hq5; change _ = some _ at hq6; change _ = some _ at hq7; go_simp; try with_reducible rfl
              try simp only [Act.put, List.setIfInBounds_toArray, List.set_cons_zero, List.set_cons_succ, List.getElem_toArray, List.getElem_cons_succ, List.getElem_cons_zero]
              refine take_S (v := ?v5) 5 rfl (by kernel_rfl) (by kernel_rfl) (by kernel_rfl) (by kernel_rfl) (fun _ _ _ h => h) hS (fun _ => trivial) rfl (fun w' hq => ?h5) ?_
              case h5 => obtain ⟨hq0, hq1, hq2, hq3, hq4, hq5, hq6, hq7, -⟩ := hq; change _ = some _ at hq0; change _ = some _ at hq1; change _ = some _ at hq2; change _ = some _ at hq3; change _ = some _ at hq4; change _ = some _ at hq5; change _ = some _ at hq6; change _ = some _ at hq7; go_simp; try with_reducible rfl
              try simp only [Act.put, List.setIfInBounds_toArray, List.set_cons_zero, List.set_cons_succ, List.getElem_toArray, List.getElem_cons_succ, List.getElem_cons_zero]
              refine take_S (v := ?v6) 6 rfl (by kernel_rfl) (by kernel_rfl) (by kernel_rfl) (by kernel_rfl) (fun _ _ _ h => h) hS (fun _ => trivial) rfl (fun w' hq => ?h6) ?_
              case h6 => obtain ⟨hq0, hq1, hq2, hq3, hq4, hq5, hq6, hq7, -⟩ := hq; change _ = some _ at hq0; change _ = some _ at hq1; change _ = some _ at hq2; change _ = some _ at hq3; change _ = some _ at hq4; change _ = some _ at hq5; change _ = some _ at hq6; change _ = some _ at hq7; go_simp; try with_reducible rfl
              try simp only [Act.put, List.setIfInBounds_toArray, List.set_cons_zero, List.set_cons_succ, List.getElem_toArray, List.getElem_cons_succ, List.getElem_cons_zero]
              refine take_S (v := ?v7) 7 rfl (by kernel_rfl) (by kernel_rfl) (by kernel_rfl) (by kernel_rfl) (fun _ _ _ h => h) hS (fun _ => trivial) rfl (fun w' hq => ?h7) ?_
              case h7 => obtain ⟨hq0, hq1, hq2, hq3, hq4, hq5, hq6, hq7, -⟩ := hq; change _ = some _ at hq0; change _ = some _ at hq1; change _ = some _ at hq2; change _ = some _ at hq3; change _ = some _ at hq4; change _ = some _ at hq5; change _ = some _ at hq6; change _ = some _ at hq7; go_simp; try with_reducible rfl
              try simp only [Act.put, List.setIfInBounds_toArray, List.set_cons_zero, List.set_cons_succ, List.getElem_toArray, List.getElem_cons_succ, List.getElem_cons_zero]
              refine one_D 8 rfl (by kernel_rfl) (fun KQ hK => ?_)
              go_simp
              refine (log_Same (e := es[k]) (f := es[k]) (Rd.drew Hx'.out) (Rd.drew Hq'.out)).mono ?_
              rintro x w5 ⟨rfl, hX5⟩
              rw [sameB_self]
              have g : ∀ b o v, W.cell? ⟨b, o, none⟩ = some v → w5.cell? ⟨b, o, none⟩ = some v := fun b o v h => (hX5.cell (p := ⟨b, o, none⟩) (lt_of_cell h)).trans h
              have hS1 : Holds [(w2.heap.size, 0, .int .u64 es[k].t), (w2.heap.size, 1, .int .u32 es[k].c), (w2.heap.size, 2, .int .u64 es[k].r), (w2.heap.size, 3, .slice px es[k].cmd.length cx), (bb, off + k * 4, .int .u64 es[k].t), (bb, off + k * 4 + 1, .int .u32 es[k].c), (bb, off + k * 4 + 2, .int .u64 es[k].r), (bb, off + k * 4 + 3, .slice sp es[k].cmd.length sc)] w5 := ⟨g _ _ _ x0, g _ _ _ x1, g _ _ _ x2, g _ _ _ x3, g _ _ _ i0, g _ _ _ i1, g _ _ _ i2, g _ _ _ i3, trivial⟩
              have HX5 := Lib.hid ((below_drewN (Below.refl _ W) 1).trans hX5)
              refine hK.out _ _ hS1 (fun _ => trivial) ?_
              clear hK hS hX5 g
              refine take_S (v := ?v9) 9 rfl (by kernel_rfl) (by kernel_rfl) (by kernel_rfl) (by kernel_rfl) (fun _ _ _ h => h) hS1 (fun _ => trivial) rfl (fun w' hq => ?h9) ?_
              case h9 => obtain ⟨hq0, hq1, hq2, hq3, hq4, hq5, hq6, hq7, -⟩ := hq; change _ = some _ at hq0; change _ = some _ at hq1; change _ = some _ at hq2; change _ = some _ at hq3; change _ = some _ at hq4; change _ = some _ at hq5; change _ = some _ at hq6; change _ = some _ at hq7; go_simp; try with_reducible rfl
              try simp only [Act.put, List.setIfInBounds_toArray, List.set_cons_zero, List.set_cons_succ, List.getElem_toArray, List.getElem_cons_succ, List.getElem_cons_zero]
              refine take_S (v := ?v10) 10 rfl (by kernel_rfl) (by kernel_rfl) (by kernel_rfl) (by kernel_rfl) (fun _ _ _ h => h) hS1 (fun _ => trivial) rfl (fun w' hq => ?h10) ?_
              case h10 => obtain ⟨hq0, hq1, hq2, hq3, hq4, hq5, hq6, hq7, -⟩ := hq; change _ = some _ at hq0; change _ = some _ at hq1; change _ = some _ at hq2; change _ = some _ at hq3; change _ = some _ at hq4; change _ = some _ at hq5; change _ = some _ at hq6; change _ = some _ at hq7; go_simp; try with_reducible rfl
              try simp only [Act.put, List.setIfInBounds_toArray, List.set_cons_zero, List.set_cons_succ, List.getElem_toArray, List.getElem_cons_succ, List.getElem_cons_zero]
              refine done_D (by kernel_rfl) ?_ _
              clear hS1 x0 x1 x2 x3 i0 i1 i2 i3
              have H12 := Lib.hid (H11.out.below HX5.out)
              have Kx5 := Lib.hid (Blk.below Kx'.out HX5.out)
              have Ky5 := Lib.hid (Blk.below Ky'.out HX5.out)
              have Kz5 := Lib.hid (Blk.below Kz.out HX5.out)
              have Hx5 := Lib.hid (Rd.below Hx'.out (by decide) HX5.out)
              have Hy5 := Lib.hid (Rd.below Hy'.out (by decide) HX5.out)
              clear HX5 H11 Kx' Ky' Kz Hx' Hq' hT Hy'
              obtain ⟨x0, x1, x2, x3, -, -, -, -, hxz⟩ := Kx5.out.c4
              obtain ⟨y0, y1, y2, y3, -, -, -, -, hyz⟩ := Ky5.out.c4
              obtain ⟨z0, z1, z2, z3, -, -, -, -, hzz⟩ := Kz5.out.c4
              have d1 : decide (m1 + (K : Int) < m1 + (k : Int) + 1) = true := by simp; omega
              have d2 : decide (m1 + (k : Int) + 1 ≤ m1 + (K : Int)) = false := by simp; omega
              have d3 : decide (m1 + (k : Int) + 1 ≤ m1 + (T : Int)) = false := by simp; omega
              have d4 : decide (m1 + (T : Int) < m1 + (k : Int) + 1) = true := by simp; omega
              go_wp2_with fail
              refine (log_Same (e := es[k]) (f := es[k]) Hx5.out Hy5.out).mono ?_
              rintro x w6 ⟨rfl, hX6⟩
              rw [sameB_self]
              have H13 := Lib.hid (H12.out.below hX6)
              have Kx6 := Lib.hid (Blk.below Kx5.out hX6)
              have Kz6 := Lib.hid (Blk.below Kz5.out hX6)
              have Hx6 := Lib.hid (Rd.below Hx5.out (by decide) hX6)
              clear hX6 H12 Kx5 Ky5 Kz5 Hx5 Hy5 x0 x1 x2 x3 y0 y1 y2 y3 z0 z1 z2 z3
              obtain ⟨x0, x1, x2, x3, -, -, -, -, hxz⟩ := Kx6.out.c4
              obtain ⟨z0, z1, z2, z3, -, -, -, -, hzz⟩ := Kz6.out.c4
              go_wp2_with fail
              clear d1 d2 d3 d4
              go_roundw
              case rel => exact ⟨k + 1, by omega, by go_num, H13.out⟩
              case measure => simp [intOf]; omega
        · obtain rfl : k = es.length := by omega
          have hD0 : (List.drop 0 (es.drop K)) = es.drop K := List.drop_zero
          have HD0 := Lib.hid hD0
          clear hD0
          obtain ⟨pa, ca, kA⟩ := H7.out.2.1.blk
          by_cases hcK : c = K
          · subst hcK
            have q : (m1 + (c : Int) - m1).toNat = c := by omega
            go_wp2_with fail
            refine (At_From' H7.out.2.1 okA.out rfl).mono ?_
            rintro x w2 ⟨px, cx, rfl, hox, hX2⟩
            have H8 := Lib.hid (H7.out.below hX2)
            have KA := Lib.hid (Blk.below kA hX2)
            have Hcut := EntsRd.cut H.out (k := c) (by omega)
            rw [if_pos rfl, Nat.sub_self] at Hcut
            have hz0 : es.length - c = 0 := by omega
            rw [hz0] at Hcut
            have hox0 := hox
            rw [DA.out, hz0] at hox0
            have Hox := Lib.hid hox0
            have HE2 := Lib.hid (EntsRd.below Hcut (H7.out.1.2.2.trans (hX2.mono H7.out.1.2.2.size)))
            clear Hcut
            clear hox hox0 hX2 H7 kA hz0
            go_wp2_with fail
            refine (ref_All (EntsOwn.rd Hox.out) HE2.out (by rw [DA.out]; omega)).mono ?_
            rintro x w3 ⟨rfl, hX3⟩
            have H9 := Lib.hid (H8.out.below hX3)
            have KA3 := Lib.hid (Blk.below KA.out hX3)
            clear hX3 H8 KA Hox HE2
            go_wp2_with fail
            refine (log_Len KA3.out).mono ?_
            rintro x w4 ⟨rfl, rfl⟩
            rw [DA.out]
            have q6 : ((es.length - c : Nat) : Int) = m1 + (es.length : Nat) - (m1 + c) := by omega
            rw [q6]
            clear q6
            go_wp2_with fail
            refine wakes_true.mono ?_
            rintro x w5 ⟨rfl, hX5⟩
            have H10 := Lib.hid (H9.out.1.2.2.trans (hX5.mono H9.out.1.2.2.size))
            clear hX5 H9 KA3
            go_wp2_with fail
            go_ret
            exact ⟨rfl, H10.out⟩
          · have q : (m1 + (K : Int) - m1).toNat = K := by omega
            go_wp2_with fail
            refine (At_From' H7.out.2.1 okA.out rfl).mono ?_
            rintro x w2 ⟨px, cx, rfl, hox, hX2⟩
            have H8 := Lib.hid (H7.out.below hX2)
            have hox0 := hox
            rw [DA.out] at hox0
            have Hox := Lib.hid hox0
            have KA := Lib.hid (Blk.below kA hX2)
            have Hcut := EntsRd.cut H.out (k := K) (by omega)
            rw [if_neg hcK] at Hcut
            have HE2 := Lib.hid (EntsRd.below Hcut (H7.out.1.2.2.trans (hX2.mono H7.out.1.2.2.size)))
            clear Hcut
            clear hox hox0 hX2 H7 kA
            go_wp2_with fail
            with_reducible refine (ref_All (EntsOwn.rd Hox.out) HE2.out (by rw [DA.out]; omega)).mono ?_
            rintro x w3 ⟨rfl, hX3⟩
            have H9 := Lib.hid (H8.out.below hX3)
            have KA3 := Lib.hid (Blk.below KA.out hX3)
            clear hX3 H8 KA Hox HE2
            go_wp2_with fail
            refine (log_Len KA3.out).mono ?_
            rintro x w4 ⟨rfl, rfl⟩
            rw [DA.out]
            have q6 : ((es.length - K : Nat) : Int) = m1 + (es.length : Nat) - (m1 + K) := by omega
            rw [q6]
            clear q6
            go_wp2_with fail
            refine wakes_true.mono ?_
            rintro x w5 ⟨rfl, hX5⟩
            have H10 := Lib.hid (H9.out.1.2.2.trans (hX5.mono H9.out.1.2.2.size))
            clear hX5 H9 KA3
            go_wp2_with fail
            go_ret
            exact ⟨rfl, H10.out⟩
end Go.Proofs.Ytmoifhoncanjjaa
