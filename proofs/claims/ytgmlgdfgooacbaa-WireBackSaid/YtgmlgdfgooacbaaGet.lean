/-
  num.Get: what it reads, as a Lean function; the contract. No condition but that the bytes can be read. (Printed by wip/gen_get.py.)
-/
import Derived.Test.YtgmlgdfgooacbaaNum
namespace Go.Proofs.Ytgmlgdfgooacbaa
open Go.RowKit
set_option linter.unusedSimpArgs false
set_option linter.unusedVariables false

/-- i bytes were read, each with the bit 128; acc is what their seven bits spell: the number, how many bytes, the error. -/
def getFrom (i acc : Nat) : List UInt8 → Nat × Nat × Nat
  | [] => (0, 0, if i < 10 then 4 else 5)
  | b :: r =>
    if i = 10 then (0, 0, 5)
    else if 128 ≤ b.toNat then getFrom (i + 1) (acc + b.toNat % 128 * 2 ^ (7 * i)) r
    else if (b.toNat = 0 ∧ 0 < i) ∨ (i = 9 ∧ 1 < b.toNat) then (0, 0, 5)
    else (acc + b.toNat * 2 ^ (7 * i), i + 1, 0)
def numGet (l : List UInt8) : Nat × Nat × Nat := getFrom 0 0 l

set_option maxRecDepth 100000 in
theorem andNot128_nat : ∀ a : Fin 256, bits .andNot .u8 ((a.val : Nat) : Int) 128 = ((a.val % 128 : Nat) : Int) := by decide +kernel
theorem u8_andNot128 (b : UInt8) : bits .andNot .u8 (b.toNat : Int) 128 = ((b.toNat % 128 : Nat) : Int) := andNot128_nat ⟨b.toNat, b.toNat_lt⟩

def getRes (x : Nat × Nat × Nat) : Value := .tuple #[.int .u64 x.1, .int .i64 x.2.1, .int .i64 x.2.2]

set_option maxHeartbeats 12000000 in
set_option maxRecDepth 100000 in
theorem num_Get_long {w : World} {S : Nat → Prop} {v : Value} {bs : List UInt8} (h : CmdRd w S v bs) (hn : 10 < bs.length) :
    Calls Try.prog 41 #[v] w fun e w' => e = .returned (getRes (numGet bs)) ∧ w = w' := by
  obtain ⟨p0, c0, rfl⟩ := h.slice
  have hle := Rd.le h
  have hcap : bs.length ≤ c0 := by obtain ⟨_, _, _, h, h1, _⟩ := h; injection h with _ _ h; omega
  have H := Lib.hid h
  unfold maxLen at hle
  clear h
  go_enter Try.func41, Try.ntmps41
  go_wp2_with fail
  go_loop [5, 14] (fun vx vi => ∃ (k acc : Nat) (z : Int), vi = .int .i64 k ∧ vx = .int .u64 z ∧ k ≤ 10 ∧ (k ≤ 9 → z = acc ∧ acc < 2 ^ (7 * k)) ∧ numGet bs = getFrom k acc (bs.drop k)) (fun _ vi => 10 - (intOf vi).toNat)
  case atStart => exact ⟨0, 0, 0, rfl, rfl, Nat.zero_le _, fun _ => ⟨rfl, by decide⟩, rfl⟩
  case round =>
    obtain ⟨k, acc, z, rfl, rfl, hk, hz, hdec⟩ := hrel
    by_cases hlt : k < 10
    · obtain ⟨rfl, hacc⟩ := hz (by omega)
      have hkb : k < bs.length := by omega
      obtain ⟨b, off, he, _, _, hcell⟩ := Rd.addr H.out (by omega)
      subst he
      have hc := hcell k _ (by rw [bcells, List.getElem?_map, List.getElem?_eq_getElem hkb]; rfl)
      have hdrop : bs.drop k = bs[k]'hkb :: bs.drop (k + 1) := List.drop_eq_getElem_cons hkb
      rw [hdrop] at hdec
      clear hcell hdrop
      generalize bs[k]'hkb = c at *
      have hc256 : c.toNat < 256 := c.toNat_lt
      obtain ⟨r, hr, hand⟩ : ∃ r : Int, r = ((c.toNat % 128 : Nat) : Int) ∧ bits .andNot .u8 (c.toNat : Int) 128 = r := ⟨_, rfl, u8_andNot128 c⟩
      have hr0 : 0 ≤ r := by omega
      have hr1 : r < 128 := by omega
      have Hr := Lib.hid hr
      clear hr
      have hks : k = 0 ∨ k = 1 ∨ k = 2 ∨ k = 3 ∨ k = 4 ∨ k = 5 ∨ k = 6 ∨ k = 7 ∨ k = 8 ∨ k = 9 := by omega
      rcases hks with rfl | rfl | rfl | rfl | rfl | rfl | rfl | rfl | rfl | rfl
      · obtain rfl : acc = 0 := by have : acc < 1 := hacc; omega
        clear hacc
        have hc0 : w.cell? ⟨b, off, none⟩ = some (.int .u8 c.toNat) := hc
        clear hc
        have hor : bits .or .u64 0 (r) = 0 + r := u64_orv0 _ _ (by omega) (by omega) (by omega) (by omega) (by omega)
        by_cases hb : 128 ≤ c.toNat
        · have hF : getFrom 0 0 (c :: bs.drop (0 + 1)) = getFrom 1 (c.toNat % 128) (bs.drop 1) := by simp [getFrom, hb]
          rw [hF] at hdec
          have Hdec := Lib.hid hdec
          clear hdec hF
          go_wp2_with fail
          go_round
          case rel => exact ⟨1, c.toNat % 128, _, rfl, rfl, by omega, fun _ => ⟨by have := Hr.out; omega, by show _ < 128; omega⟩, Hdec.out⟩
          case measure => simp [intOf] <;> omega
        · have hF : getFrom 0 0 (c :: bs.drop (0 + 1)) = (c.toNat, 1, 0) := by simp [getFrom, show ¬ 128 ≤ c.toNat from hb]
          rw [hF] at hdec
          have Hdec := Lib.hid hdec
          clear hdec hF
          go_wp2_with fail
          all_goals
            go_ret3
            exact ⟨by rw [Hdec.out]; simp only [getRes]; rw [show ((c.toNat : Nat) : Int) = r from by have := Hr.out; omega]; rfl, rfl⟩
      · have hacc' : acc < 128 := hacc
        clear hacc
        have hc0 : w.cell? ⟨b, off + 1, none⟩ = some (.int .u8 c.toNat) := hc
        clear hc
        have hor : bits .or .u64 (acc : Int) (r * 128) = (acc : Int) + r * 128 := u64_orv7 _ _ (by omega) (by omega) (by omega) (by omega) (by omega)
        by_cases hb : 128 ≤ c.toNat
        · have hF : getFrom 1 acc (c :: bs.drop (1 + 1)) = getFrom 2 (acc + c.toNat % 128 * 128) (bs.drop 2) := by simp [getFrom, hb]
          rw [hF] at hdec
          have Hdec := Lib.hid hdec
          clear hdec hF
          go_wp2_with fail
          go_round
          case rel => exact ⟨2, acc + c.toNat % 128 * 128, _, rfl, rfl, by omega, fun _ => ⟨by have := Hr.out; omega, by show _ < 16384; omega⟩, Hdec.out⟩
          case measure => simp [intOf] <;> omega
        · by_cases h0 : c.toNat = 0
          · have hF : getFrom 1 acc (c :: bs.drop (1 + 1)) = (0, 0, 5) := by simp [getFrom, h0]
            rw [hF] at hdec
            have Hdec := Lib.hid hdec
            clear hdec hF
            go_wp2_with fail
            go_ret3
            exact ⟨by rw [Hdec.out]; rfl, rfl⟩
          · have hF : getFrom 1 acc (c :: bs.drop (1 + 1)) = (acc + c.toNat * 128, 2, 0) := by simp [getFrom, h0, show ¬ 128 ≤ c.toNat from hb]
            rw [hF] at hdec
            have Hdec := Lib.hid hdec
            clear hdec hF
            go_wp2_with fail
            go_ret3
            exact ⟨by rw [Hdec.out]; simp only [getRes]; rw [show ((acc + c.toNat * 128 : Nat) : Int) = (acc : Int) + r * 128 from by have := Hr.out; omega]; rfl, rfl⟩
      · have hacc' : acc < 16384 := hacc
        clear hacc
        have hc0 : w.cell? ⟨b, off + 2, none⟩ = some (.int .u8 c.toNat) := hc
        clear hc
        have hor : bits .or .u64 (acc : Int) (r * 16384) = (acc : Int) + r * 16384 := u64_orv14 _ _ (by omega) (by omega) (by omega) (by omega) (by omega)
        by_cases hb : 128 ≤ c.toNat
        · have hF : getFrom 2 acc (c :: bs.drop (2 + 1)) = getFrom 3 (acc + c.toNat % 128 * 16384) (bs.drop 3) := by simp [getFrom, hb]
          rw [hF] at hdec
          have Hdec := Lib.hid hdec
          clear hdec hF
          go_wp2_with fail
          go_round
          case rel => exact ⟨3, acc + c.toNat % 128 * 16384, _, rfl, rfl, by omega, fun _ => ⟨by have := Hr.out; omega, by show _ < 2097152; omega⟩, Hdec.out⟩
          case measure => simp [intOf] <;> omega
        · by_cases h0 : c.toNat = 0
          · have hF : getFrom 2 acc (c :: bs.drop (2 + 1)) = (0, 0, 5) := by simp [getFrom, h0]
            rw [hF] at hdec
            have Hdec := Lib.hid hdec
            clear hdec hF
            go_wp2_with fail
            go_ret3
            exact ⟨by rw [Hdec.out]; rfl, rfl⟩
          · have hF : getFrom 2 acc (c :: bs.drop (2 + 1)) = (acc + c.toNat * 16384, 3, 0) := by simp [getFrom, h0, show ¬ 128 ≤ c.toNat from hb]
            rw [hF] at hdec
            have Hdec := Lib.hid hdec
            clear hdec hF
            go_wp2_with fail
            go_ret3
            exact ⟨by rw [Hdec.out]; simp only [getRes]; rw [show ((acc + c.toNat * 16384 : Nat) : Int) = (acc : Int) + r * 16384 from by have := Hr.out; omega]; rfl, rfl⟩
      · have hacc' : acc < 2097152 := hacc
        clear hacc
        have hc0 : w.cell? ⟨b, off + 3, none⟩ = some (.int .u8 c.toNat) := hc
        clear hc
        have hor : bits .or .u64 (acc : Int) (r * 2097152) = (acc : Int) + r * 2097152 := u64_orv21 _ _ (by omega) (by omega) (by omega) (by omega) (by omega)
        by_cases hb : 128 ≤ c.toNat
        · have hF : getFrom 3 acc (c :: bs.drop (3 + 1)) = getFrom 4 (acc + c.toNat % 128 * 2097152) (bs.drop 4) := by simp [getFrom, hb]
          rw [hF] at hdec
          have Hdec := Lib.hid hdec
          clear hdec hF
          go_wp2_with fail
          go_round
          case rel => exact ⟨4, acc + c.toNat % 128 * 2097152, _, rfl, rfl, by omega, fun _ => ⟨by have := Hr.out; omega, by show _ < 268435456; omega⟩, Hdec.out⟩
          case measure => simp [intOf] <;> omega
        · by_cases h0 : c.toNat = 0
          · have hF : getFrom 3 acc (c :: bs.drop (3 + 1)) = (0, 0, 5) := by simp [getFrom, h0]
            rw [hF] at hdec
            have Hdec := Lib.hid hdec
            clear hdec hF
            go_wp2_with fail
            go_ret3
            exact ⟨by rw [Hdec.out]; rfl, rfl⟩
          · have hF : getFrom 3 acc (c :: bs.drop (3 + 1)) = (acc + c.toNat * 2097152, 4, 0) := by simp [getFrom, h0, show ¬ 128 ≤ c.toNat from hb]
            rw [hF] at hdec
            have Hdec := Lib.hid hdec
            clear hdec hF
            go_wp2_with fail
            go_ret3
            exact ⟨by rw [Hdec.out]; simp only [getRes]; rw [show ((acc + c.toNat * 2097152 : Nat) : Int) = (acc : Int) + r * 2097152 from by have := Hr.out; omega]; rfl, rfl⟩
      · have hacc' : acc < 268435456 := hacc
        clear hacc
        have hc0 : w.cell? ⟨b, off + 4, none⟩ = some (.int .u8 c.toNat) := hc
        clear hc
        have hor : bits .or .u64 (acc : Int) (r * 268435456) = (acc : Int) + r * 268435456 := u64_orv28 _ _ (by omega) (by omega) (by omega) (by omega) (by omega)
        by_cases hb : 128 ≤ c.toNat
        · have hF : getFrom 4 acc (c :: bs.drop (4 + 1)) = getFrom 5 (acc + c.toNat % 128 * 268435456) (bs.drop 5) := by simp [getFrom, hb]
          rw [hF] at hdec
          have Hdec := Lib.hid hdec
          clear hdec hF
          go_wp2_with fail
          go_round
          case rel => exact ⟨5, acc + c.toNat % 128 * 268435456, _, rfl, rfl, by omega, fun _ => ⟨by have := Hr.out; omega, by show _ < 34359738368; omega⟩, Hdec.out⟩
          case measure => simp [intOf] <;> omega
        · by_cases h0 : c.toNat = 0
          · have hF : getFrom 4 acc (c :: bs.drop (4 + 1)) = (0, 0, 5) := by simp [getFrom, h0]
            rw [hF] at hdec
            have Hdec := Lib.hid hdec
            clear hdec hF
            go_wp2_with fail
            go_ret3
            exact ⟨by rw [Hdec.out]; rfl, rfl⟩
          · have hF : getFrom 4 acc (c :: bs.drop (4 + 1)) = (acc + c.toNat * 268435456, 5, 0) := by simp [getFrom, h0, show ¬ 128 ≤ c.toNat from hb]
            rw [hF] at hdec
            have Hdec := Lib.hid hdec
            clear hdec hF
            go_wp2_with fail
            go_ret3
            exact ⟨by rw [Hdec.out]; simp only [getRes]; rw [show ((acc + c.toNat * 268435456 : Nat) : Int) = (acc : Int) + r * 268435456 from by have := Hr.out; omega]; rfl, rfl⟩
      · have hacc' : acc < 34359738368 := hacc
        clear hacc
        have hc0 : w.cell? ⟨b, off + 5, none⟩ = some (.int .u8 c.toNat) := hc
        clear hc
        have hor : bits .or .u64 (acc : Int) (r * 34359738368) = (acc : Int) + r * 34359738368 := u64_orv35 _ _ (by omega) (by omega) (by omega) (by omega) (by omega)
        by_cases hb : 128 ≤ c.toNat
        · have hF : getFrom 5 acc (c :: bs.drop (5 + 1)) = getFrom 6 (acc + c.toNat % 128 * 34359738368) (bs.drop 6) := by simp [getFrom, hb]
          rw [hF] at hdec
          have Hdec := Lib.hid hdec
          clear hdec hF
          go_wp2_with fail
          go_round
          case rel => exact ⟨6, acc + c.toNat % 128 * 34359738368, _, rfl, rfl, by omega, fun _ => ⟨by have := Hr.out; omega, by show _ < 4398046511104; omega⟩, Hdec.out⟩
          case measure => simp [intOf] <;> omega
        · by_cases h0 : c.toNat = 0
          · have hF : getFrom 5 acc (c :: bs.drop (5 + 1)) = (0, 0, 5) := by simp [getFrom, h0]
            rw [hF] at hdec
            have Hdec := Lib.hid hdec
            clear hdec hF
            go_wp2_with fail
            go_ret3
            exact ⟨by rw [Hdec.out]; rfl, rfl⟩
          · have hF : getFrom 5 acc (c :: bs.drop (5 + 1)) = (acc + c.toNat * 34359738368, 6, 0) := by simp [getFrom, h0, show ¬ 128 ≤ c.toNat from hb]
            rw [hF] at hdec
            have Hdec := Lib.hid hdec
            clear hdec hF
            go_wp2_with fail
            go_ret3
            exact ⟨by rw [Hdec.out]; simp only [getRes]; rw [show ((acc + c.toNat * 34359738368 : Nat) : Int) = (acc : Int) + r * 34359738368 from by have := Hr.out; omega]; rfl, rfl⟩
      · have hacc' : acc < 4398046511104 := hacc
        clear hacc
        have hc0 : w.cell? ⟨b, off + 6, none⟩ = some (.int .u8 c.toNat) := hc
        clear hc
        have hor : bits .or .u64 (acc : Int) (r * 4398046511104) = (acc : Int) + r * 4398046511104 := u64_orv42 _ _ (by omega) (by omega) (by omega) (by omega) (by omega)
        by_cases hb : 128 ≤ c.toNat
        · have hF : getFrom 6 acc (c :: bs.drop (6 + 1)) = getFrom 7 (acc + c.toNat % 128 * 4398046511104) (bs.drop 7) := by simp [getFrom, hb]
          rw [hF] at hdec
          have Hdec := Lib.hid hdec
          clear hdec hF
          go_wp2_with fail
          go_round
          case rel => exact ⟨7, acc + c.toNat % 128 * 4398046511104, _, rfl, rfl, by omega, fun _ => ⟨by have := Hr.out; omega, by show _ < 562949953421312; omega⟩, Hdec.out⟩
          case measure => simp [intOf] <;> omega
        · by_cases h0 : c.toNat = 0
          · have hF : getFrom 6 acc (c :: bs.drop (6 + 1)) = (0, 0, 5) := by simp [getFrom, h0]
            rw [hF] at hdec
            have Hdec := Lib.hid hdec
            clear hdec hF
            go_wp2_with fail
            go_ret3
            exact ⟨by rw [Hdec.out]; rfl, rfl⟩
          · have hF : getFrom 6 acc (c :: bs.drop (6 + 1)) = (acc + c.toNat * 4398046511104, 7, 0) := by simp [getFrom, h0, show ¬ 128 ≤ c.toNat from hb]
            rw [hF] at hdec
            have Hdec := Lib.hid hdec
            clear hdec hF
            go_wp2_with fail
            go_ret3
            exact ⟨by rw [Hdec.out]; simp only [getRes]; rw [show ((acc + c.toNat * 4398046511104 : Nat) : Int) = (acc : Int) + r * 4398046511104 from by have := Hr.out; omega]; rfl, rfl⟩
      · have hacc' : acc < 562949953421312 := hacc
        clear hacc
        have hc0 : w.cell? ⟨b, off + 7, none⟩ = some (.int .u8 c.toNat) := hc
        clear hc
        have hor : bits .or .u64 (acc : Int) (r * 562949953421312) = (acc : Int) + r * 562949953421312 := u64_orv49 _ _ (by omega) (by omega) (by omega) (by omega) (by omega)
        by_cases hb : 128 ≤ c.toNat
        · have hF : getFrom 7 acc (c :: bs.drop (7 + 1)) = getFrom 8 (acc + c.toNat % 128 * 562949953421312) (bs.drop 8) := by simp [getFrom, hb]
          rw [hF] at hdec
          have Hdec := Lib.hid hdec
          clear hdec hF
          go_wp2_with fail
          go_round
          case rel => exact ⟨8, acc + c.toNat % 128 * 562949953421312, _, rfl, rfl, by omega, fun _ => ⟨by have := Hr.out; omega, by show _ < 72057594037927936; omega⟩, Hdec.out⟩
          case measure => simp [intOf] <;> omega
        · by_cases h0 : c.toNat = 0
          · have hF : getFrom 7 acc (c :: bs.drop (7 + 1)) = (0, 0, 5) := by simp [getFrom, h0]
            rw [hF] at hdec
            have Hdec := Lib.hid hdec
            clear hdec hF
            go_wp2_with fail
            go_ret3
            exact ⟨by rw [Hdec.out]; rfl, rfl⟩
          · have hF : getFrom 7 acc (c :: bs.drop (7 + 1)) = (acc + c.toNat * 562949953421312, 8, 0) := by simp [getFrom, h0, show ¬ 128 ≤ c.toNat from hb]
            rw [hF] at hdec
            have Hdec := Lib.hid hdec
            clear hdec hF
            go_wp2_with fail
            go_ret3
            exact ⟨by rw [Hdec.out]; simp only [getRes]; rw [show ((acc + c.toNat * 562949953421312 : Nat) : Int) = (acc : Int) + r * 562949953421312 from by have := Hr.out; omega]; rfl, rfl⟩
      · have hacc' : acc < 72057594037927936 := hacc
        clear hacc
        have hc0 : w.cell? ⟨b, off + 8, none⟩ = some (.int .u8 c.toNat) := hc
        clear hc
        have hor : bits .or .u64 (acc : Int) (r * 72057594037927936) = (acc : Int) + r * 72057594037927936 := u64_orv56 _ _ (by omega) (by omega) (by omega) (by omega) (by omega)
        by_cases hb : 128 ≤ c.toNat
        · have hF : getFrom 8 acc (c :: bs.drop (8 + 1)) = getFrom 9 (acc + c.toNat % 128 * 72057594037927936) (bs.drop 9) := by simp [getFrom, hb]
          rw [hF] at hdec
          have Hdec := Lib.hid hdec
          clear hdec hF
          go_wp2_with fail
          go_round
          case rel => exact ⟨9, acc + c.toNat % 128 * 72057594037927936, _, rfl, rfl, by omega, fun _ => ⟨by have := Hr.out; omega, by show _ < 9223372036854775808; omega⟩, Hdec.out⟩
          case measure => simp [intOf] <;> omega
        · by_cases h0 : c.toNat = 0
          · have hF : getFrom 8 acc (c :: bs.drop (8 + 1)) = (0, 0, 5) := by simp [getFrom, h0]
            rw [hF] at hdec
            have Hdec := Lib.hid hdec
            clear hdec hF
            go_wp2_with fail
            go_ret3
            exact ⟨by rw [Hdec.out]; rfl, rfl⟩
          · have hF : getFrom 8 acc (c :: bs.drop (8 + 1)) = (acc + c.toNat * 72057594037927936, 9, 0) := by simp [getFrom, h0, show ¬ 128 ≤ c.toNat from hb]
            rw [hF] at hdec
            have Hdec := Lib.hid hdec
            clear hdec hF
            go_wp2_with fail
            go_ret3
            exact ⟨by rw [Hdec.out]; simp only [getRes]; rw [show ((acc + c.toNat * 72057594037927936 : Nat) : Int) = (acc : Int) + r * 72057594037927936 from by have := Hr.out; omega]; rfl, rfl⟩
      · have hacc' : acc < 9223372036854775808 := hacc
        clear hacc
        have hc0 : w.cell? ⟨b, off + 9, none⟩ = some (.int .u8 c.toNat) := hc
        clear hc
        by_cases hb : 128 ≤ c.toNat
        · have hF : getFrom 9 acc (c :: bs.drop (9 + 1)) = getFrom 10 0 (bs.drop 10) := by simp only [getFrom, hb]; simp; cases bs.drop 10 <;> simp [getFrom]
          rw [hF] at hdec
          have Hdec := Lib.hid hdec
          clear hdec hF
          go_wp2_with fail
          go_round
          case rel => exact ⟨10, 0, _, rfl, rfl, by omega, fun h => absurd h (by decide), Hdec.out⟩
          case measure => simp [intOf] <;> omega
        · by_cases h0 : c.toNat = 0
          · have hF : getFrom 9 acc (c :: bs.drop (9 + 1)) = (0, 0, 5) := by simp [getFrom, h0]
            rw [hF] at hdec
            have Hdec := Lib.hid hdec
            clear hdec hF
            go_wp2_with fail
            go_ret3
            exact ⟨by rw [Hdec.out]; rfl, rfl⟩
          · by_cases h1 : 1 < c.toNat
            · have hF : getFrom 9 acc (c :: bs.drop (9 + 1)) = (0, 0, 5) := by simp [getFrom, h1, show ¬ 128 ≤ c.toNat from hb]
              rw [hF] at hdec
              have Hdec := Lib.hid hdec
              clear hdec hF
              go_wp2_with fail
              go_ret3
              exact ⟨by rw [Hdec.out]; rfl, rfl⟩
            · have hr2 : r < 2 := by rw [Hr.out]; omega
              have hor : bits .or .u64 (acc : Int) (r * 9223372036854775808) = (acc : Int) + r * 9223372036854775808 := u64_orv63 _ _ (by omega) (by omega) (by omega) (by omega) (by omega)
              have hF : getFrom 9 acc (c :: bs.drop (9 + 1)) = (acc + c.toNat * 9223372036854775808, 10, 0) := by simp [getFrom, h0, h1, show ¬ 128 ≤ c.toNat from hb]
              rw [hF] at hdec
              have Hdec := Lib.hid hdec
              clear hdec hF
              go_wp2_with fail
              go_ret3
              exact ⟨by rw [Hdec.out]; simp only [getRes]; rw [show ((acc + c.toNat * 9223372036854775808 : Nat) : Int) = (acc : Int) + r * 9223372036854775808 from by have := Hr.out; omega]; rfl, rfl⟩
    · obtain rfl : k = 10 := by omega
      have hF : getFrom 10 acc (bs.drop 10) = (0, 0, 5) := by cases bs.drop 10 <;> simp [getFrom]
      rw [hF] at hdec
      have Hdec := Lib.hid hdec
      clear hdec hF hz
      go_wp2_with fail
      go_ret3
      exact ⟨by rw [Hdec.out]; rfl, rfl⟩

set_option maxHeartbeats 12000000 in
set_option maxRecDepth 100000 in
theorem num_Get_short {w : World} {S : Nat → Prop} {v : Value} {bs : List UInt8} (h : CmdRd w S v bs) (hn : bs.length ≤ 10) :
    Calls Try.prog 41 #[v] w fun e w' => e = .returned (getRes (numGet bs)) ∧ w = w' := by
  obtain ⟨p0, c0, rfl⟩ := h.slice
  have hle := Rd.le h
  have hcap : bs.length ≤ c0 := by obtain ⟨_, _, _, h, h1, _⟩ := h; injection h with _ _ h; omega
  have H := Lib.hid h
  unfold maxLen at hle
  clear h
  go_enter Try.func41, Try.ntmps41
  go_wp2_with fail
  go_loop [5, 14] (fun vx vi => ∃ (k acc : Nat) (z : Int), vi = .int .i64 k ∧ vx = .int .u64 z ∧ k ≤ bs.length ∧ (k ≤ 9 → z = acc ∧ acc < 2 ^ (7 * k)) ∧ numGet bs = getFrom k acc (bs.drop k)) (fun _ vi => bs.length - (intOf vi).toNat)
  case atStart => exact ⟨0, 0, 0, rfl, rfl, Nat.zero_le _, fun _ => ⟨rfl, by decide⟩, rfl⟩
  case round =>
    obtain ⟨k, acc, z, rfl, rfl, hk, hz, hdec⟩ := hrel
    by_cases hlt : k < bs.length
    · obtain ⟨rfl, hacc⟩ := hz (by omega)
      have hkb : k < bs.length := by omega
      obtain ⟨b, off, he, _, _, hcell⟩ := Rd.addr H.out (by omega)
      subst he
      have hc := hcell k _ (by rw [bcells, List.getElem?_map, List.getElem?_eq_getElem hkb]; rfl)
      have hdrop : bs.drop k = bs[k]'hkb :: bs.drop (k + 1) := List.drop_eq_getElem_cons hkb
      rw [hdrop] at hdec
      clear hcell hdrop
      generalize bs[k]'hkb = c at *
      have hc256 : c.toNat < 256 := c.toNat_lt
      obtain ⟨r, hr, hand⟩ : ∃ r : Int, r = ((c.toNat % 128 : Nat) : Int) ∧ bits .andNot .u8 (c.toNat : Int) 128 = r := ⟨_, rfl, u8_andNot128 c⟩
      have hr0 : 0 ≤ r := by omega
      have hr1 : r < 128 := by omega
      have Hr := Lib.hid hr
      clear hr
      have hks : k = 0 ∨ k = 1 ∨ k = 2 ∨ k = 3 ∨ k = 4 ∨ k = 5 ∨ k = 6 ∨ k = 7 ∨ k = 8 ∨ k = 9 := by omega
      rcases hks with rfl | rfl | rfl | rfl | rfl | rfl | rfl | rfl | rfl | rfl
      · obtain rfl : acc = 0 := by have : acc < 1 := hacc; omega
        clear hacc
        have hc0 : w.cell? ⟨b, off, none⟩ = some (.int .u8 c.toNat) := hc
        clear hc
        have hor : bits .or .u64 0 (r) = 0 + r := u64_orv0 _ _ (by omega) (by omega) (by omega) (by omega) (by omega)
        by_cases hb : 128 ≤ c.toNat
        · have hF : getFrom 0 0 (c :: bs.drop (0 + 1)) = getFrom 1 (c.toNat % 128) (bs.drop 1) := by simp [getFrom, hb]
          rw [hF] at hdec
          have Hdec := Lib.hid hdec
          clear hdec hF
          go_wp2_with fail
          go_round
          case rel => exact ⟨1, c.toNat % 128, _, rfl, rfl, by omega, fun _ => ⟨by have := Hr.out; omega, by show _ < 128; omega⟩, Hdec.out⟩
          case measure => simp [intOf] <;> omega
        · have hF : getFrom 0 0 (c :: bs.drop (0 + 1)) = (c.toNat, 1, 0) := by simp [getFrom, show ¬ 128 ≤ c.toNat from hb]
          rw [hF] at hdec
          have Hdec := Lib.hid hdec
          clear hdec hF
          go_wp2_with fail
          all_goals
            go_ret3
            exact ⟨by rw [Hdec.out]; simp only [getRes]; rw [show ((c.toNat : Nat) : Int) = r from by have := Hr.out; omega]; rfl, rfl⟩
      · have hacc' : acc < 128 := hacc
        clear hacc
        have hc0 : w.cell? ⟨b, off + 1, none⟩ = some (.int .u8 c.toNat) := hc
        clear hc
        have hor : bits .or .u64 (acc : Int) (r * 128) = (acc : Int) + r * 128 := u64_orv7 _ _ (by omega) (by omega) (by omega) (by omega) (by omega)
        by_cases hb : 128 ≤ c.toNat
        · have hF : getFrom 1 acc (c :: bs.drop (1 + 1)) = getFrom 2 (acc + c.toNat % 128 * 128) (bs.drop 2) := by simp [getFrom, hb]
          rw [hF] at hdec
          have Hdec := Lib.hid hdec
          clear hdec hF
          go_wp2_with fail
          go_round
          case rel => exact ⟨2, acc + c.toNat % 128 * 128, _, rfl, rfl, by omega, fun _ => ⟨by have := Hr.out; omega, by show _ < 16384; omega⟩, Hdec.out⟩
          case measure => simp [intOf] <;> omega
        · by_cases h0 : c.toNat = 0
          · have hF : getFrom 1 acc (c :: bs.drop (1 + 1)) = (0, 0, 5) := by simp [getFrom, h0]
            rw [hF] at hdec
            have Hdec := Lib.hid hdec
            clear hdec hF
            go_wp2_with fail
            go_ret3
            exact ⟨by rw [Hdec.out]; rfl, rfl⟩
          · have hF : getFrom 1 acc (c :: bs.drop (1 + 1)) = (acc + c.toNat * 128, 2, 0) := by simp [getFrom, h0, show ¬ 128 ≤ c.toNat from hb]
            rw [hF] at hdec
            have Hdec := Lib.hid hdec
            clear hdec hF
            go_wp2_with fail
            go_ret3
            exact ⟨by rw [Hdec.out]; simp only [getRes]; rw [show ((acc + c.toNat * 128 : Nat) : Int) = (acc : Int) + r * 128 from by have := Hr.out; omega]; rfl, rfl⟩
      · have hacc' : acc < 16384 := hacc
        clear hacc
        have hc0 : w.cell? ⟨b, off + 2, none⟩ = some (.int .u8 c.toNat) := hc
        clear hc
        have hor : bits .or .u64 (acc : Int) (r * 16384) = (acc : Int) + r * 16384 := u64_orv14 _ _ (by omega) (by omega) (by omega) (by omega) (by omega)
        by_cases hb : 128 ≤ c.toNat
        · have hF : getFrom 2 acc (c :: bs.drop (2 + 1)) = getFrom 3 (acc + c.toNat % 128 * 16384) (bs.drop 3) := by simp [getFrom, hb]
          rw [hF] at hdec
          have Hdec := Lib.hid hdec
          clear hdec hF
          go_wp2_with fail
          go_round
          case rel => exact ⟨3, acc + c.toNat % 128 * 16384, _, rfl, rfl, by omega, fun _ => ⟨by have := Hr.out; omega, by show _ < 2097152; omega⟩, Hdec.out⟩
          case measure => simp [intOf] <;> omega
        · by_cases h0 : c.toNat = 0
          · have hF : getFrom 2 acc (c :: bs.drop (2 + 1)) = (0, 0, 5) := by simp [getFrom, h0]
            rw [hF] at hdec
            have Hdec := Lib.hid hdec
            clear hdec hF
            go_wp2_with fail
            go_ret3
            exact ⟨by rw [Hdec.out]; rfl, rfl⟩
          · have hF : getFrom 2 acc (c :: bs.drop (2 + 1)) = (acc + c.toNat * 16384, 3, 0) := by simp [getFrom, h0, show ¬ 128 ≤ c.toNat from hb]
            rw [hF] at hdec
            have Hdec := Lib.hid hdec
            clear hdec hF
            go_wp2_with fail
            go_ret3
            exact ⟨by rw [Hdec.out]; simp only [getRes]; rw [show ((acc + c.toNat * 16384 : Nat) : Int) = (acc : Int) + r * 16384 from by have := Hr.out; omega]; rfl, rfl⟩
      · have hacc' : acc < 2097152 := hacc
        clear hacc
        have hc0 : w.cell? ⟨b, off + 3, none⟩ = some (.int .u8 c.toNat) := hc
        clear hc
        have hor : bits .or .u64 (acc : Int) (r * 2097152) = (acc : Int) + r * 2097152 := u64_orv21 _ _ (by omega) (by omega) (by omega) (by omega) (by omega)
        by_cases hb : 128 ≤ c.toNat
        · have hF : getFrom 3 acc (c :: bs.drop (3 + 1)) = getFrom 4 (acc + c.toNat % 128 * 2097152) (bs.drop 4) := by simp [getFrom, hb]
          rw [hF] at hdec
          have Hdec := Lib.hid hdec
          clear hdec hF
          go_wp2_with fail
          go_round
          case rel => exact ⟨4, acc + c.toNat % 128 * 2097152, _, rfl, rfl, by omega, fun _ => ⟨by have := Hr.out; omega, by show _ < 268435456; omega⟩, Hdec.out⟩
          case measure => simp [intOf] <;> omega
        · by_cases h0 : c.toNat = 0
          · have hF : getFrom 3 acc (c :: bs.drop (3 + 1)) = (0, 0, 5) := by simp [getFrom, h0]
            rw [hF] at hdec
            have Hdec := Lib.hid hdec
            clear hdec hF
            go_wp2_with fail
            go_ret3
            exact ⟨by rw [Hdec.out]; rfl, rfl⟩
          · have hF : getFrom 3 acc (c :: bs.drop (3 + 1)) = (acc + c.toNat * 2097152, 4, 0) := by simp [getFrom, h0, show ¬ 128 ≤ c.toNat from hb]
            rw [hF] at hdec
            have Hdec := Lib.hid hdec
            clear hdec hF
            go_wp2_with fail
            go_ret3
            exact ⟨by rw [Hdec.out]; simp only [getRes]; rw [show ((acc + c.toNat * 2097152 : Nat) : Int) = (acc : Int) + r * 2097152 from by have := Hr.out; omega]; rfl, rfl⟩
      · have hacc' : acc < 268435456 := hacc
        clear hacc
        have hc0 : w.cell? ⟨b, off + 4, none⟩ = some (.int .u8 c.toNat) := hc
        clear hc
        have hor : bits .or .u64 (acc : Int) (r * 268435456) = (acc : Int) + r * 268435456 := u64_orv28 _ _ (by omega) (by omega) (by omega) (by omega) (by omega)
        by_cases hb : 128 ≤ c.toNat
        · have hF : getFrom 4 acc (c :: bs.drop (4 + 1)) = getFrom 5 (acc + c.toNat % 128 * 268435456) (bs.drop 5) := by simp [getFrom, hb]
          rw [hF] at hdec
          have Hdec := Lib.hid hdec
          clear hdec hF
          go_wp2_with fail
          go_round
          case rel => exact ⟨5, acc + c.toNat % 128 * 268435456, _, rfl, rfl, by omega, fun _ => ⟨by have := Hr.out; omega, by show _ < 34359738368; omega⟩, Hdec.out⟩
          case measure => simp [intOf] <;> omega
        · by_cases h0 : c.toNat = 0
          · have hF : getFrom 4 acc (c :: bs.drop (4 + 1)) = (0, 0, 5) := by simp [getFrom, h0]
            rw [hF] at hdec
            have Hdec := Lib.hid hdec
            clear hdec hF
            go_wp2_with fail
            go_ret3
            exact ⟨by rw [Hdec.out]; rfl, rfl⟩
          · have hF : getFrom 4 acc (c :: bs.drop (4 + 1)) = (acc + c.toNat * 268435456, 5, 0) := by simp [getFrom, h0, show ¬ 128 ≤ c.toNat from hb]
            rw [hF] at hdec
            have Hdec := Lib.hid hdec
            clear hdec hF
            go_wp2_with fail
            go_ret3
            exact ⟨by rw [Hdec.out]; simp only [getRes]; rw [show ((acc + c.toNat * 268435456 : Nat) : Int) = (acc : Int) + r * 268435456 from by have := Hr.out; omega]; rfl, rfl⟩
      · have hacc' : acc < 34359738368 := hacc
        clear hacc
        have hc0 : w.cell? ⟨b, off + 5, none⟩ = some (.int .u8 c.toNat) := hc
        clear hc
        have hor : bits .or .u64 (acc : Int) (r * 34359738368) = (acc : Int) + r * 34359738368 := u64_orv35 _ _ (by omega) (by omega) (by omega) (by omega) (by omega)
        by_cases hb : 128 ≤ c.toNat
        · have hF : getFrom 5 acc (c :: bs.drop (5 + 1)) = getFrom 6 (acc + c.toNat % 128 * 34359738368) (bs.drop 6) := by simp [getFrom, hb]
          rw [hF] at hdec
          have Hdec := Lib.hid hdec
          clear hdec hF
          go_wp2_with fail
          go_round
          case rel => exact ⟨6, acc + c.toNat % 128 * 34359738368, _, rfl, rfl, by omega, fun _ => ⟨by have := Hr.out; omega, by show _ < 4398046511104; omega⟩, Hdec.out⟩
          case measure => simp [intOf] <;> omega
        · by_cases h0 : c.toNat = 0
          · have hF : getFrom 5 acc (c :: bs.drop (5 + 1)) = (0, 0, 5) := by simp [getFrom, h0]
            rw [hF] at hdec
            have Hdec := Lib.hid hdec
            clear hdec hF
            go_wp2_with fail
            go_ret3
            exact ⟨by rw [Hdec.out]; rfl, rfl⟩
          · have hF : getFrom 5 acc (c :: bs.drop (5 + 1)) = (acc + c.toNat * 34359738368, 6, 0) := by simp [getFrom, h0, show ¬ 128 ≤ c.toNat from hb]
            rw [hF] at hdec
            have Hdec := Lib.hid hdec
            clear hdec hF
            go_wp2_with fail
            go_ret3
            exact ⟨by rw [Hdec.out]; simp only [getRes]; rw [show ((acc + c.toNat * 34359738368 : Nat) : Int) = (acc : Int) + r * 34359738368 from by have := Hr.out; omega]; rfl, rfl⟩
      · have hacc' : acc < 4398046511104 := hacc
        clear hacc
        have hc0 : w.cell? ⟨b, off + 6, none⟩ = some (.int .u8 c.toNat) := hc
        clear hc
        have hor : bits .or .u64 (acc : Int) (r * 4398046511104) = (acc : Int) + r * 4398046511104 := u64_orv42 _ _ (by omega) (by omega) (by omega) (by omega) (by omega)
        by_cases hb : 128 ≤ c.toNat
        · have hF : getFrom 6 acc (c :: bs.drop (6 + 1)) = getFrom 7 (acc + c.toNat % 128 * 4398046511104) (bs.drop 7) := by simp [getFrom, hb]
          rw [hF] at hdec
          have Hdec := Lib.hid hdec
          clear hdec hF
          go_wp2_with fail
          go_round
          case rel => exact ⟨7, acc + c.toNat % 128 * 4398046511104, _, rfl, rfl, by omega, fun _ => ⟨by have := Hr.out; omega, by show _ < 562949953421312; omega⟩, Hdec.out⟩
          case measure => simp [intOf] <;> omega
        · by_cases h0 : c.toNat = 0
          · have hF : getFrom 6 acc (c :: bs.drop (6 + 1)) = (0, 0, 5) := by simp [getFrom, h0]
            rw [hF] at hdec
            have Hdec := Lib.hid hdec
            clear hdec hF
            go_wp2_with fail
            go_ret3
            exact ⟨by rw [Hdec.out]; rfl, rfl⟩
          · have hF : getFrom 6 acc (c :: bs.drop (6 + 1)) = (acc + c.toNat * 4398046511104, 7, 0) := by simp [getFrom, h0, show ¬ 128 ≤ c.toNat from hb]
            rw [hF] at hdec
            have Hdec := Lib.hid hdec
            clear hdec hF
            go_wp2_with fail
            go_ret3
            exact ⟨by rw [Hdec.out]; simp only [getRes]; rw [show ((acc + c.toNat * 4398046511104 : Nat) : Int) = (acc : Int) + r * 4398046511104 from by have := Hr.out; omega]; rfl, rfl⟩
      · have hacc' : acc < 562949953421312 := hacc
        clear hacc
        have hc0 : w.cell? ⟨b, off + 7, none⟩ = some (.int .u8 c.toNat) := hc
        clear hc
        have hor : bits .or .u64 (acc : Int) (r * 562949953421312) = (acc : Int) + r * 562949953421312 := u64_orv49 _ _ (by omega) (by omega) (by omega) (by omega) (by omega)
        by_cases hb : 128 ≤ c.toNat
        · have hF : getFrom 7 acc (c :: bs.drop (7 + 1)) = getFrom 8 (acc + c.toNat % 128 * 562949953421312) (bs.drop 8) := by simp [getFrom, hb]
          rw [hF] at hdec
          have Hdec := Lib.hid hdec
          clear hdec hF
          go_wp2_with fail
          go_round
          case rel => exact ⟨8, acc + c.toNat % 128 * 562949953421312, _, rfl, rfl, by omega, fun _ => ⟨by have := Hr.out; omega, by show _ < 72057594037927936; omega⟩, Hdec.out⟩
          case measure => simp [intOf] <;> omega
        · by_cases h0 : c.toNat = 0
          · have hF : getFrom 7 acc (c :: bs.drop (7 + 1)) = (0, 0, 5) := by simp [getFrom, h0]
            rw [hF] at hdec
            have Hdec := Lib.hid hdec
            clear hdec hF
            go_wp2_with fail
            go_ret3
            exact ⟨by rw [Hdec.out]; rfl, rfl⟩
          · have hF : getFrom 7 acc (c :: bs.drop (7 + 1)) = (acc + c.toNat * 562949953421312, 8, 0) := by simp [getFrom, h0, show ¬ 128 ≤ c.toNat from hb]
            rw [hF] at hdec
            have Hdec := Lib.hid hdec
            clear hdec hF
            go_wp2_with fail
            go_ret3
            exact ⟨by rw [Hdec.out]; simp only [getRes]; rw [show ((acc + c.toNat * 562949953421312 : Nat) : Int) = (acc : Int) + r * 562949953421312 from by have := Hr.out; omega]; rfl, rfl⟩
      · have hacc' : acc < 72057594037927936 := hacc
        clear hacc
        have hc0 : w.cell? ⟨b, off + 8, none⟩ = some (.int .u8 c.toNat) := hc
        clear hc
        have hor : bits .or .u64 (acc : Int) (r * 72057594037927936) = (acc : Int) + r * 72057594037927936 := u64_orv56 _ _ (by omega) (by omega) (by omega) (by omega) (by omega)
        by_cases hb : 128 ≤ c.toNat
        · have hF : getFrom 8 acc (c :: bs.drop (8 + 1)) = getFrom 9 (acc + c.toNat % 128 * 72057594037927936) (bs.drop 9) := by simp [getFrom, hb]
          rw [hF] at hdec
          have Hdec := Lib.hid hdec
          clear hdec hF
          go_wp2_with fail
          go_round
          case rel => exact ⟨9, acc + c.toNat % 128 * 72057594037927936, _, rfl, rfl, by omega, fun _ => ⟨by have := Hr.out; omega, by show _ < 9223372036854775808; omega⟩, Hdec.out⟩
          case measure => simp [intOf] <;> omega
        · by_cases h0 : c.toNat = 0
          · have hF : getFrom 8 acc (c :: bs.drop (8 + 1)) = (0, 0, 5) := by simp [getFrom, h0]
            rw [hF] at hdec
            have Hdec := Lib.hid hdec
            clear hdec hF
            go_wp2_with fail
            go_ret3
            exact ⟨by rw [Hdec.out]; rfl, rfl⟩
          · have hF : getFrom 8 acc (c :: bs.drop (8 + 1)) = (acc + c.toNat * 72057594037927936, 9, 0) := by simp [getFrom, h0, show ¬ 128 ≤ c.toNat from hb]
            rw [hF] at hdec
            have Hdec := Lib.hid hdec
            clear hdec hF
            go_wp2_with fail
            go_ret3
            exact ⟨by rw [Hdec.out]; simp only [getRes]; rw [show ((acc + c.toNat * 72057594037927936 : Nat) : Int) = (acc : Int) + r * 72057594037927936 from by have := Hr.out; omega]; rfl, rfl⟩
      · have hacc' : acc < 9223372036854775808 := hacc
        clear hacc
        have hc0 : w.cell? ⟨b, off + 9, none⟩ = some (.int .u8 c.toNat) := hc
        clear hc
        by_cases hb : 128 ≤ c.toNat
        · have hF : getFrom 9 acc (c :: bs.drop (9 + 1)) = getFrom 10 0 (bs.drop 10) := by simp only [getFrom, hb]; simp; cases bs.drop 10 <;> simp [getFrom]
          rw [hF] at hdec
          have Hdec := Lib.hid hdec
          clear hdec hF
          go_wp2_with fail
          go_round
          case rel => exact ⟨10, 0, _, rfl, rfl, by omega, fun h => absurd h (by decide), Hdec.out⟩
          case measure => simp [intOf] <;> omega
        · by_cases h0 : c.toNat = 0
          · have hF : getFrom 9 acc (c :: bs.drop (9 + 1)) = (0, 0, 5) := by simp [getFrom, h0]
            rw [hF] at hdec
            have Hdec := Lib.hid hdec
            clear hdec hF
            go_wp2_with fail
            go_ret3
            exact ⟨by rw [Hdec.out]; rfl, rfl⟩
          · by_cases h1 : 1 < c.toNat
            · have hF : getFrom 9 acc (c :: bs.drop (9 + 1)) = (0, 0, 5) := by simp [getFrom, h1, show ¬ 128 ≤ c.toNat from hb]
              rw [hF] at hdec
              have Hdec := Lib.hid hdec
              clear hdec hF
              go_wp2_with fail
              go_ret3
              exact ⟨by rw [Hdec.out]; rfl, rfl⟩
            · have hr2 : r < 2 := by rw [Hr.out]; omega
              have hor : bits .or .u64 (acc : Int) (r * 9223372036854775808) = (acc : Int) + r * 9223372036854775808 := u64_orv63 _ _ (by omega) (by omega) (by omega) (by omega) (by omega)
              have hF : getFrom 9 acc (c :: bs.drop (9 + 1)) = (acc + c.toNat * 9223372036854775808, 10, 0) := by simp [getFrom, h0, h1, show ¬ 128 ≤ c.toNat from hb]
              rw [hF] at hdec
              have Hdec := Lib.hid hdec
              clear hdec hF
              go_wp2_with fail
              go_ret3
              exact ⟨by rw [Hdec.out]; simp only [getRes]; rw [show ((acc + c.toNat * 9223372036854775808 : Nat) : Int) = (acc : Int) + r * 9223372036854775808 from by have := Hr.out; omega]; rfl, rfl⟩
    · obtain rfl : k = bs.length := by omega
      by_cases h10 : bs.length < 10
      · have hF : getFrom bs.length acc (bs.drop bs.length) = (0, 0, 4) := by rw [List.drop_length]; simp [getFrom, h10]
        rw [hF] at hdec
        have Hdec := Lib.hid hdec
        clear hdec hF hz
        go_wp2_with fail
        go_ret3
        exact ⟨by rw [Hdec.out]; rfl, rfl⟩
      · have hF : getFrom bs.length acc (bs.drop bs.length) = (0, 0, 5) := by rw [List.drop_length]; simp [getFrom, h10]
        rw [hF] at hdec
        have Hdec := Lib.hid hdec
        clear hdec hF hz
        go_wp2_with fail
        go_ret3
        exact ⟨by rw [Hdec.out]; rfl, rfl⟩

theorem num_Get {w : World} {S : Nat → Prop} {v : Value} {bs : List UInt8} (h : CmdRd w S v bs) :
    Calls Try.prog 41 #[v] w fun e w' => e = .returned (getRes (numGet bs)) ∧ w = w' := by
  by_cases hn : bs.length ≤ 10
  · exact num_Get_short h hn
  · exact num_Get_long h (by omega)
end Go.Proofs.Ytgmlgdfgooacbaa
