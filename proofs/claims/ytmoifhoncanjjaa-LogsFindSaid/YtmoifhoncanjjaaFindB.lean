/-
  LogsFind: the walk, at more than 40 entries: true. (Printed by wip/gen_find.py.) Condition: the number of entries.
-/
import Derived.Test.YtmoifhoncanjjaaFindL
namespace Go.Proofs.Ytmoifhoncanjjaa
open Go.RowKit
set_option linter.unusedSimpArgs false
set_option linter.unusedVariables false

set_option maxHeartbeats 3200000 in
set_option maxRecDepth 100000 in
theorem find_large {w : World} {S : Nat → Prop} {client req : Int} {v : Value} {es : List Ent} (h : EntsRd w S v es) (hn : ¬ es.length ≤ 40) (hf : Fits es) :
    Calls Try.prog 4 #[v, .int .u32 client, .int .u64 req] w fun x w' => x = .returned (.bool true) ∧ Below w.heap.size w w' := by
  obtain ⟨cs, hr, -⟩ := id h
  obtain ⟨p, c, rfl⟩ := Rd.slice hr
  have hlen := Rd.le hr
  have hlc : es.length ≤ c := by obtain ⟨_, _, _, h, h1, _⟩ := hr; injection h with _ _ h; omega
  unfold maxLen at hlen
  have H := Lib.hid h
  have Hf := Lib.hid hf
  clear hr h hf
  have f64 := EntsRd.front H.out (k := 40) (by omega)
  have g64 := Hf.out.take 40
  have h64 : (es.take 40).length = 40 := by rw [List.length_take]; omega
  go_enter Try.func4, Try.ntmps4
  go_wp2_with fail
  have hlc' : 40 ≤ c := by omega
  clear H Hf hn hlen hlc
  generalize es.take 40 = es at f64 g64 h64
  have hn : es.length ≤ 40 := by omega
  have hlc : es.length ≤ c := by omega
  have hlen : es.length ≤ 281474976710656 := by omega
  rw [show Value.slice p 40 c = Value.slice p es.length c from by rw [h64]]
  rw [← h64] at f64
  have h65 := h64
  clear h64
  have H := Lib.hid f64
  have Hf := Lib.hid g64
  have h64 : 40 ≤ es.length := by omega
  clear h65
  clear f64 g64 hlc'
  refine (log_New (m := 0) H.out Hf.out (by omega) (by decide)).mono ?_
  rintro x w1 ⟨l, rfl, hN⟩
  have H1 := Lib.hid (At.new hN (Below.refl _ w))
  clear hN
  go_wp2_with fail
  go_loopw [9] (fun i wr => ∃ j : Int, -1 ≤ j ∧ j ≤ es.length ∧ i = .int .i64 j ∧ At w wr l 0 (es.take j.toNat)) (fun i _ => (intOf i + 1).toNat)
  case atStart => exact ⟨es.length, by omega, by omega, rfl, by simpa using H1.out⟩
  case round =>
    clear H1
    obtain ⟨j, hj0, hj, rfl, hat⟩ := hrel
    by_cases hlt : 0 ≤ j
    · obtain ⟨k, rfl⟩ : ∃ k : Nat, j = k := ⟨j.toNat, by omega⟩
      rw [Int.toNat_natCast] at hat
      have Ha := Lib.hid hat
      clear hat
      have hkl : (es.take k).length = k := by rw [List.length_take]; omega
      have Hkl := Lib.hid hkl
      have Hok := Lib.hid (show LogOk 0 (es.take k) from ⟨Hf.out.take k, by omega, by decide, by decide⟩)
      clear hkl
      go_wp2_with fail
      go_loopw [10, 11] (fun a i W => ∃ q : Nat, q ≤ k ∧ i = .int .i64 q ∧ a = .int .i64 (lastN (hit es client req) q : Nat) ∧ W = wr) (fun _ i _ => k - (intOf i).toNat)
      case atStart => exact ⟨0, Nat.zero_le _, rfl, rfl, rfl⟩
      case round =>
        obtain ⟨q, hq, rfl, rfl, rfl⟩ := hrel
        by_cases hqk : q < k
        · have hr := H.out
          obtain ⟨cs, hr, hE⟩ := hr
          obtain ⟨bb, off, he, _, _, hcell⟩ := Rd.addr hr (by omega)
          subst he
          obtain ⟨s, hs, hq'⟩ := hE.2 q es[q] (List.getElem?_eq_getElem (by omega))
          obtain ⟨e0, e1, e2, e3⟩ := cells4 hcell hs
          obtain ⟨hc, -⟩ := bcell Ha.out.2.2
          have lt1 := lt_of_cell e0
          rw [← hc bb _ lt1] at e0 e1 e2 e3
          have hh := hit_eq (es := es) (client := client) (req := req) (i := q) (by omega)
          have hl : lastN (hit es client req) (q + 1) = if hit es client req q then q + 1 else lastN (hit es client req) q := rfl
          rw [hh] at hl
          have Hl := Lib.hid hl
          clear hr hE hcell hs hq' hc hh hl e0 e3
          by_cases c1 : es[q].c = client
          · by_cases c2 : es[q].r = req
            · have d1 : decide (es[q].c = client) = true := by simp [c1]
              have d2 : decide (es[q].r = req) = true := by simp [c2]
              have hl := Hl.out
              rw [d1, d2] at hl
              have Hl := Lib.hid hl
              clear hl
              go_wp2_with fail
              go_roundw
              case rel => exact ⟨q + 1, by omega, by go_num, by rw [Hl.out]; go_num, trivial⟩
              case measure => simp [intOf]; omega
            · have d1 : decide (es[q].c = client) = true := by simp [c1]
              have d2 : decide (es[q].r = req) = false := by simp [c2]
              have hl := Hl.out
              rw [d1, d2] at hl
              have Hl := Lib.hid hl
              clear hl
              go_wp2_with fail
              go_roundw
              case rel => exact ⟨q + 1, by omega, by go_num, by rw [Hl.out]; rfl, trivial⟩
              case measure => simp [intOf]; omega
          · have d1 : decide (es[q].c = client) = false := by simp [c1]
            have hl := Hl.out
            rw [d1] at hl
            have Hl := Lib.hid hl
            clear hl
            go_wp2_with fail
            go_roundw
            case rel => exact ⟨q + 1, by omega, by go_num, by rw [Hl.out]; rfl, trivial⟩
            case measure => simp [intOf]; omega
        · obtain rfl : q = k := by omega
          go_wp2_with fail
          refine (At_Find Ha.out Hok.out (client := client) (req := req)).mono ?_
          rintro x w2 ⟨rfl, h2⟩
          rw [Hkl.out, lastN_take (by omega), foundOp_zero]
          have H2 := Lib.hid h2
          have hLk := lastN_le (hit es client req) q
          clear h2 Ha
          generalize lastN (hit es client req) q = L at *
          have qL : IntKind.u64.wrap (L : Int) = L := IntWalk.u64_in _ (by omega)
          by_cases hL : 0 < L
          · have d1 : decide (0 < L) = true := by simp [hL]
            have d2 : decide (0 < (L : Int)) = true := by simp; omega
            rw [d1]
            by_cases hk0 : 0 < q
            · have qk : IntKind.u64.wrap (q : Int) = q := IntWalk.u64_in _ (by omega)
              have qk1 : IntKind.u64.wrap ((q : Int) - 1) = (q : Int) - 1 := IntWalk.u64_in _ (by omega)
              go_wp2_with fail
              refine (At_trim (k := q - 1) H2.out Hok.out (by rw [Hkl.out]; omega) (by omega)).mono ?_
              rintro x w3 ⟨rfl, h3⟩
              rw [List.take_take, Nat.min_eq_left (by omega)] at h3
              have H3 := Lib.hid h3
              clear h3 H2
              go_wp2_with fail
              go_roundw
              case rel => exact ⟨(q : Int) - 1, by omega, by omega, by go_num, by rw [show ((q : Int) - 1).toNat = q - 1 from by omega]; exact H3.out⟩
              case measure => simp [intOf]
            · exfalso; omega
          · obtain rfl : L = 0 := by omega
            have d1 : decide (0 < 0) = false := by decide
            rw [d1]
            by_cases hk0 : 0 < q
            · have qk : IntKind.u64.wrap (q : Int) = q := IntWalk.u64_in _ (by omega)
              have qk1 : IntKind.u64.wrap ((q : Int) - 1) = (q : Int) - 1 := IntWalk.u64_in _ (by omega)
              go_wp2_with fail
              refine (At_trim (k := q - 1) H2.out Hok.out (by rw [Hkl.out]; omega) (by omega)).mono ?_
              rintro x w3 ⟨rfl, h3⟩
              rw [List.take_take, Nat.min_eq_left (by omega)] at h3
              have H3 := Lib.hid h3
              clear h3 H2
              go_wp2_with fail
              go_roundw
              case rel => exact ⟨(q : Int) - 1, by omega, by omega, by go_num, by rw [show ((q : Int) - 1).toNat = q - 1 from by omega]; exact H3.out⟩
              case measure => simp [intOf]
            · obtain rfl : q = 0 := by omega
              go_wp2_with fail
              go_roundw
              case rel => exact ⟨-1, by omega, by omega, by go_num, by rw [show (-1 : Int).toNat = 0 from rfl]; exact H2.out⟩
              case measure => simp [intOf]
    · obtain rfl : j = -1 := by omega
      have hat0 : At w wr l 0 [] := hat
      have Ha := Lib.hid hat0
      clear hat hat0
      obtain ⟨pa, ca, kA⟩ := Ha.out.blk
      have KA := Lib.hid kA
      clear kA
      go_wp2_with fail
      refine (log_Len KA.out).mono ?_
      rintro x w4 ⟨rfl, rfl⟩
      go_wp2_with fail
      refine (log_Op KA.out (by decide) (by decide) (by decide)).mono ?_
      rintro x w4 ⟨rfl, rfl⟩
      go_wp2_with fail
      refine wakes_true.mono ?_
      rintro x w5 ⟨rfl, hX5⟩
      have H10 := Lib.hid (Ha.out.2.2.trans (hX5.mono Ha.out.2.2.size))
      clear hX5
      go_wp2_with fail
      go_ret
      exact ⟨rfl, H10.out⟩

end Go.Proofs.Ytmoifhoncanjjaa
