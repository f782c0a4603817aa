/-
  The reference's Find: the contract.
-/
import Derived.Test.YtmoifhoncanjjaaRfFrom
import Derived.Test.YtmoifhoncanjjaaFind
namespace Go.Proofs.Ytmoifhoncanjjaa
open Go.RowKit
set_option linter.unusedSimpArgs false

set_option maxHeartbeats 1600000 in
theorem ref_Find {w : World} {S : Nat → Prop} {b : Nat} {m client req : Int} {es : List Ent} (h : RLog w S b m es) (h2 : es.length ≤ 64) :
    Calls Try.prog 46 #[.pointer (some ⟨b, 0, none⟩), .int .u32 client, .int .u64 req] w fun x w' =>
      x = .returned (.tuple #[.int .u64 (foundOp m (lastN (hit es client req) es.length)), .bool (decide (0 < lastN (hit es client req) es.length))]) ∧ w = w' := by
  have H := Lib.hid h
  clear h
  go_enter Try.func46, Try.ntmps46
  go_wp2_with fail
  go_loopw [8, 9, 10] (fun o t i wr => ∃ j L : Nat, j ≤ es.length ∧ i = .int .i64 j ∧ L = lastN (hit es client req) j ∧ o = .int .u64 (foundOp m L) ∧ t = .bool (decide (0 < L)) ∧ wr = w) (fun _ _ i _ => es.length - (intOf i).toNat)
  case atStart => exact ⟨0, 0, Nat.zero_le _, rfl, rfl, rfl, rfl, rfl⟩
  case round =>
    obtain ⟨j, L, hj, rfl, hL, rfl, rfl, rfl⟩ := hrel
    obtain ⟨p, c, hB, hI, -⟩ := H.out
    obtain ⟨a0, a1, f0, f1, hz⟩ := hB.c2
    have HL := Lib.hid hL
    clear hL hB
    by_cases hlt : j < es.length
    · obtain ⟨g, off, s, rfl, hc1, hc2, hg, hq, d0, d1, d2, d3, d4⟩ := hI.at hlt
      clear hg hq hI
      have hh := hit_eq (client := client) (req := req) hlt
      have Hno := Lib.hid (show ¬ (es[j].c = client ∧ es[j].r = req) → lastN (hit es client req) (j + 1) = L from by
        intro hn
        rw [lastN, hh, HL.out, if_neg]
        simpa using hn)
      have Hyes := Lib.hid (show (es[j].c = client ∧ es[j].r = req) → lastN (hit es client req) (j + 1) = j + 1 from by
        intro hn
        rw [lastN, hh, if_pos]
        simpa using hn)
      clear hh
      by_cases e1 : es[j].c = client
      · have t1 : (es[j].c == client) = true := by simpa using e1
        by_cases e2 : es[j].r = req
        · have t2 : (es[j].r == req) = true := by simpa using e2
          have H1 := Lib.hid (Hyes.out ⟨e1, e2⟩)
          clear e1 e2
          have Hf := Lib.hid (show foundOp m (j + 1) = m + j + 1 from by unfold foundOp; rw [if_neg (by omega)]; push_cast; omega)
          go_wp2_with fail
          go_roundw
          case rel => exact ⟨j + 1, j + 1, by omega, by go_num, H1.out.symm, by rw [Hf.out], by simp, by first | rfl | trivial⟩
          case measure => simp [intOf]; omega
        · have t2 : (es[j].r == req) = false := by simpa using e2
          have H1 := Lib.hid (Hno.out fun h => e2 h.2)
          clear e1 e2
          go_wp2_with fail
          go_roundw
          case rel => exact ⟨j + 1, L, by omega, by go_num, H1.out.symm, rfl, rfl, by first | rfl | trivial⟩
          case measure => simp [intOf]; omega
      · have t1 : (es[j].c == client) = false := by simpa using e1
        have H1 := Lib.hid (Hno.out fun h => e1 h.1)
        clear e1
        go_wp2_with fail
        go_roundw
        case rel => exact ⟨j + 1, L, by omega, by go_num, H1.out.symm, rfl, rfl, by first | rfl | trivial⟩
        case measure => simp [intOf]; omega
    · obtain rfl : j = es.length := by omega
      clear hI
      go_wp2_with fail
      go_ret2
      exact ⟨by rw [← HL.out]; rfl, rfl⟩
end Go.Proofs.Ytmoifhoncanjjaa
