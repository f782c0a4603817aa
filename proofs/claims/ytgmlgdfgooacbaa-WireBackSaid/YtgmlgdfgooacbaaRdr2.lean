/-
  The Reader, further: Upto, Int, Bool, Count, Bytes, Str, End; the reader that is none: contracts. (Printed by wip/gen_rdr2.py.)
-/
import Derived.Test.YtgmlgdfgooacbaaRdr
import Derived.Lib.VarintDec
namespace Go.Proofs.Ytgmlgdfgooacbaa
open Go.RowKit
set_option linter.unusedSimpArgs false
set_option linter.unusedVariables false

theorem getFrom_lt : ∀ (l : List UInt8) (i acc : Nat), i ≤ 9 → acc < 2 ^ (7 * i) → (getFrom i acc l).1 < 18446744073709551616
  | [], _, _, _, _ => by simp [getFrom]
  | b :: r, i, acc, hi, hacc => by
    have hb := b.toNat_lt
    simp only [getFrom]
    split
    · simp
    · have e : 2 ^ (7 * (i + 1)) = 2 ^ (7 * i) * 128 := by rw [Nat.mul_add, Nat.pow_add]
      split
      · rcases Nat.lt_or_ge i 9 with h9 | h9
        · refine getFrom_lt r (i + 1) _ (by omega) ?_
          rw [e]
          have h1 : b.toNat % 128 * 2 ^ (7 * i) ≤ 127 * 2 ^ (7 * i) := Nat.mul_le_mul_right _ (by omega)
          generalize 2 ^ (7 * i) = P at *
          omega
        · obtain rfl : i = 9 := by omega
          cases r <;> simp [getFrom]
      · rename_i h128
        split
        · simp
        · rename_i h0
          rcases Nat.lt_or_ge i 9 with h9 | h9
          · have h1 : b.toNat * 2 ^ (7 * i) ≤ 127 * 2 ^ (7 * i) := Nat.mul_le_mul_right _ (by omega)
            have h2 : 2 ^ (7 * i) ≤ 2 ^ 56 := Nat.pow_le_pow_right (by decide) (by omega)
            generalize 2 ^ (7 * i) = P at *
            show acc + b.toNat * P < _
            omega
          · obtain rfl : i = 9 := by omega
            have hb1 : b.toNat ≤ 1 := by omega
            have hP : acc < 9223372036854775808 := hacc
            show acc + b.toNat * 9223372036854775808 < _
            omega
theorem numGet_lt (l : List UInt8) : (numGet l).1 < 18446744073709551616 := getFrom_lt l 0 0 (by omega) (by decide)
theorem rdNum_lt (s : RS) : (rdNum s).1 < 18446744073709551616 := by
  unfold rdNum
  split
  · split
    · exact numGet_lt _
    · show (0 : Nat) < _; decide
  · show (0 : Nat) < _; decide

def rdUpto (s : RS) (most : Nat) : Nat × RS := if most < (rdNum s).1 then (0, rdFail (rdNum s).2 3) else rdNum s
def rdBool (s : RS) : Bool × RS := ((rdNum s).1 == 1, if 1 < (rdNum s).1 then rdFail (rdNum s).2 5 else (rdNum s).2)
def rdInt (s : RS) : Int × RS := (Lib.unzigzag (rdNum s).1, (rdNum s).2)
def rdCount (s : RS) (most : Int) : Nat × RS := rdUpto s most.toNat
def rdBytes (s : RS) (most : Int) : List UInt8 × RS :=
  if (rdCount s most).2.e = 0 then
    if (rdCount s most).1 ≤ (rdCount s most).2.b.length then ((rdCount s most).2.b.take (rdCount s most).1, ⟨(rdCount s most).2.b.drop (rdCount s most).1, 0⟩) else ([], ⟨(rdCount s most).2.b, 4⟩)
  else ([], (rdCount s most).2)
def rdEnd (s : RS) : RS := if 0 < rdLeft s then rdFail s 3 else s
theorem rdUpto_le (s : RS) (most : Nat) : (rdUpto s most).1 ≤ most := by
  unfold rdUpto
  split
  · exact Nat.zero_le _
  · omega

set_option maxHeartbeats 800000 in
theorem rd_Upto {w : World} {lo a : Nat} {s : RS} {most : Nat} (h : RdAt w lo a s) (hle : lo ≤ a) :
    Calls Try.prog 33 #[.pointer (some ⟨a, 0, none⟩), .int .u64 most] w fun x w' => x = .returned (.int .u64 (rdUpto s most).1) ∧ RdAt w' lo a (rdUpto s most).2 ∧ Ext (· = a) w w' := by
  have H := Lib.hid h
  clear h
  by_cases hc : most < (rdNum s).1
  · have e : rdUpto s most = (0, rdFail (rdNum s).2 3) := by simp [rdUpto, hc]
    rw [e]
    clear e
    have t1 : decide ((most : Int) < ((rdNum s).1 : Int)) = true := by simpa using hc
    go_enter Try.func33, Try.ntmps33
    go_wp2_with fail
    refine (rd_Num H.out hle).mono ?_
    rintro x w1 ⟨rfl, hR, hX⟩
    have HR := Lib.hid hR
    have HX := Lib.hid hX
    clear hR hX
    go_wp2_with fail
    refine (rd_Fail (x := 3) HR.out hle).mono ?_
    rintro x w2 ⟨rfl, hR, hX⟩
    have HR2 := Lib.hid hR
    have HX2 := Lib.hid (HX.out.trans hX)
    clear hR hX
    go_wp2_with fail
    go_ret
    exact ⟨rfl, HR2.out, HX2.out⟩
  · have e : rdUpto s most = rdNum s := by simp [rdUpto, hc]
    rw [e]
    clear e
    have t1 : decide ((most : Int) < ((rdNum s).1 : Int)) = false := by simpa using hc
    go_enter Try.func33, Try.ntmps33
    go_wp2_with fail
    refine (rd_Num H.out hle).mono ?_
    rintro x w1 ⟨rfl, hR, hX⟩
    have HR := Lib.hid hR
    have HX := Lib.hid hX
    clear hR hX
    go_wp2_with fail
    go_ret
    exact ⟨rfl, HR.out, HX.out⟩

theorem rd_Int {w : World} {lo a : Nat} {s : RS} (h : RdAt w lo a s) (hle : lo ≤ a) :
    Calls Try.prog 23 #[.pointer (some ⟨a, 0, none⟩)] w fun x w' => x = .returned (.int .i64 (rdInt s).1) ∧ RdAt w' lo a (rdInt s).2 ∧ Ext (· = a) w w' := by
  have H := Lib.hid h
  clear h
  unfold rdInt
  go_enter Try.func23, Try.ntmps23
  go_wp2_with fail
  refine (rd_Num H.out hle).mono ?_
  rintro x w1 ⟨rfl, hR, hX⟩
  have HR := Lib.hid hR
  have HX := Lib.hid hX
  clear hR hX
  go_wp2_with fail
  refine (num_Unfold (rdNum_lt s)).mono ?_
  rintro x w2 ⟨rfl, rfl⟩
  go_wp2_with fail
  go_ret
  exact ⟨rfl, HR.out, HX.out⟩

set_option maxHeartbeats 800000 in
theorem rd_Bool {w : World} {lo a : Nat} {s : RS} (h : RdAt w lo a s) (hle : lo ≤ a) :
    Calls Try.prog 24 #[.pointer (some ⟨a, 0, none⟩)] w fun x w' => x = .returned (.bool (rdBool s).1) ∧ RdAt w' lo a (rdBool s).2 ∧ Ext (· = a) w w' := by
  have H := Lib.hid h
  clear h
  obtain ⟨y, hy⟩ : ∃ y, y = (rdBool s).1 := ⟨_, rfl⟩
  have e0 : ((((rdNum s).1 : Nat) : Int) == 1) = y := by
    rw [hy]; unfold rdBool
    rw [Bool.eq_iff_iff]
    simp
    omega
  have e3 : (rdBool s).1 = y := hy.symm
  rw [e3]
  clear hy e3
  by_cases hc : 1 < (rdNum s).1
  · have e : (rdBool s).2 = rdFail (rdNum s).2 5 := by simp [rdBool, hc]
    rw [e]
    clear e
    have t1 : decide ((1 : Int) < ((rdNum s).1 : Int)) = true := by simp; omega
    clear hc
    go_enter Try.func24, Try.ntmps24
    go_wp2_with fail
    refine (rd_Num H.out hle).mono ?_
    rintro x w1 ⟨rfl, hR, hX⟩
    have HR := Lib.hid hR
    have HX := Lib.hid hX
    clear hR hX
    go_wp2_with fail
    refine (rd_Fail (x := 5) HR.out hle).mono ?_
    rintro x w2 ⟨rfl, hR, hX⟩
    have HR2 := Lib.hid hR
    have HX2 := Lib.hid (HX.out.trans hX)
    clear hR hX
    go_wp2_with fail
    go_ret
    exact ⟨rfl, HR2.out, HX2.out⟩
  · have e : (rdBool s).2 = (rdNum s).2 := by simp [rdBool, hc]
    rw [e]
    clear e
    have t1 : decide ((1 : Int) < ((rdNum s).1 : Int)) = false := by simp; omega
    clear hc
    go_enter Try.func24, Try.ntmps24
    go_wp2_with fail
    refine (rd_Num H.out hle).mono ?_
    rintro x w1 ⟨rfl, hR, hX⟩
    have HR := Lib.hid hR
    have HX := Lib.hid hX
    clear hR hX
    go_wp2_with fail
    go_ret
    exact ⟨rfl, HR.out, HX.out⟩

theorem rd_Count {w : World} {lo a : Nat} {s : RS} {most : Int} (h : RdAt w lo a s) (hle : lo ≤ a) (hm : most ≤ 9223372036854775807) :
    Calls Try.prog 30 #[.pointer (some ⟨a, 0, none⟩), .int .i64 most] w fun x w' => x = .returned (.int .i64 (rdCount s most).1) ∧ RdAt w' lo a (rdCount s most).2 ∧ Ext (· = a) w w' := by
  have H := Lib.hid h
  clear h
  have hr := rdUpto_le s most.toNat
  by_cases hc : most < 0
  · have e : (0 : Int) = ((most.toNat : Nat) : Int) := by omega
    have hu := rd_Upto (most := most.toNat) H.out hle
    rw [← e] at hu
    have HU := Lib.hid hu
    unfold rdCount
    clear hu e
    go_enter Try.func30, Try.ntmps30
    go_wp2_with fail
    refine HU.out.mono ?_
    rintro x w1 ⟨rfl, hR, hX⟩
    have HR := Lib.hid hR
    have HX := Lib.hid hX
    clear hR hX
    go_wp2_with fail
    go_ret
    exact ⟨rfl, HR.out, HX.out⟩
  · have e : most = ((most.toNat : Nat) : Int) := by omega
    have hu := rd_Upto (most := most.toNat) H.out hle
    rw [← e] at hu
    have HU := Lib.hid hu
    unfold rdCount
    clear hu e
    go_enter Try.func30, Try.ntmps30
    go_wp2_with fail
    refine HU.out.mono ?_
    rintro x w1 ⟨rfl, hR, hX⟩
    have HR := Lib.hid hR
    have HX := Lib.hid hX
    clear hR hX
    go_wp2_with fail
    go_ret
    exact ⟨rfl, HR.out, HX.out⟩

theorem CmdRd.front3 {w : World} {S : Nat → Prop} {p : Option Addr} {c k : Nat} {b : List UInt8} (h : CmdRd w S (.slice p b.length c) b) (hk : k ≤ b.length) : Rd w S 1 (.slice p k k) k (bcells (b.take k)) := by
  obtain ⟨hl, p', c', he, h1, h2, h3⟩ := h
  injection he with e1 _ e2
  subst e1; subst e2
  refine ⟨by rw [bcells_len, List.length_take, Nat.mul_one]; omega, _, _, rfl, Nat.le_refl _, by omega, fun hn => ?_⟩
  obtain ⟨b', off, rfl, hb, hc⟩ := h3 (by omega)
  refine ⟨b', off, rfl, hb, fun j u hu => hc j u ?_⟩
  rw [bcells_take, List.getElem?_take] at hu
  split at hu
  · exact hu
  · cases hu

/-- What the closure of Bytes leaves: the bytes in the result's cell. -/
def Took (w0 w : World) (gB n : Nat) (bs : List UInt8) : Prop := ∃ p c, Blk w gB 23 #[.slice p n c] ∧ w.ownsRow w0.heap.size 5 1 (.slice p n c) n (bcells (bs.take n)) ∧ Ext (· = gB) w0 w

set_option maxHeartbeats 1600000 in
theorem bytes_1 {w : World} {lo a gN gR gB n : Nat} {z : Value} {s : RS} (h : RdAt w lo a s) (kN : Blk w gN 3 #[.int .i64 n]) (kR : Blk w gR 42 #[.pointer (some ⟨a, 0, none⟩)]) (kB : Blk w gB 23 #[z]) (hn : n ≤ s.b.length) (hb : s.b.length ≤ 200000000000000) :
    Calls Try.prog 43 #[.pointer (some ⟨gN, 0, none⟩), .pointer (some ⟨gR, 0, none⟩), .pointer (some ⟨gB, 0, none⟩)] w fun x w' =>
      x = .returned (.tuple #[.int .i64 n, .int .i64 0]) ∧ Took w w' gB n s.b := by
  obtain ⟨bs, er⟩ := s
  obtain ⟨v, hB, hR⟩ : ∃ v, Blk w a 61 #[v, .int .i64 er, .bool true] ∧ CmdRd w (fun k => lo ≤ k ∧ k < a) v bs := h
  have hlen : bs.length ≤ maxLen := Rd.le hR
  unfold maxLen at hlen
  obtain ⟨p, c, rfl⟩ := hR.slice
  have hcb : bs.length ≤ c := by obtain ⟨_, _, _, h, h1, _⟩ := hR; injection h with _ _ h; omega
  have hcm : c ≤ maxLen := by obtain ⟨_, _, _, h, _, h1, _⟩ := hR; injection h with _ _ h; omega
  unfold maxLen at hcm
  obtain ⟨a0, a1, a2, f0, f1, f2, hz⟩ := hB.c3
  obtain ⟨n0, n1, hz1⟩ := kN.c1
  obtain ⟨r0, r1, hz2⟩ := kR.c1
  have HR := Lib.hid hR
  have KB := Lib.hid kB
  have HN := Lib.hid hn
  have hn' : n ≤ bs.length := hn
  have hb' : bs.length ≤ 200000000000000 := hb
  have hnc : n ≤ c := by omega
  have HNe := Lib.hid (show gN ≠ gB from kN.ne_ kB (by decide))
  clear hB hR kN kR kB hn hb
  go_enter Try.func43, Try.ntmps43
  go_wp2_with fail
  have hS : Hold3 (gN, 0, .int .i64 n) (gR, 0, .pointer (some ⟨a, 0, none⟩)) (a, 0, .slice p bs.length c) w.drew := ⟨n0, r0, a0⟩
  have hT : Hold0 w.drew := trivial
  refine begin_D [] (by kernel_rfl) hS (fun _ => hT) ?_
  refine take_S (v := ?v0x) 0 rfl (by kernel_rfl) (by kernel_rfl) (by kernel_rfl) (by kernel_rfl) (fun _ _ _ h => h) hS (fun _ => trivial) rfl (fun w' hq => ?h0x) ?_
  case h0x => obtain ⟨hq0, hq1, hq2⟩ := hq; change _ = some _ at hq0; change _ = some _ at hq1; change _ = some _ at hq2; go_simp; try with_reducible rfl
  try simp only [Act.put, List.setIfInBounds_toArray, List.set_cons_zero, List.set_cons_succ, List.getElem_toArray, List.getElem_cons_succ, List.getElem_cons_zero]
  refine take_S (v := ?v1x) 1 rfl (by kernel_rfl) (by kernel_rfl) (by kernel_rfl) (by kernel_rfl) (fun _ _ _ h => h) hS (fun _ => trivial) rfl (fun w' hq => ?h1x) ?_
  case h1x => obtain ⟨hq0, hq1, hq2⟩ := hq; change _ = some _ at hq0; change _ = some _ at hq1; change _ = some _ at hq2; go_simp; try with_reducible rfl
  try simp only [Act.put, List.setIfInBounds_toArray, List.set_cons_zero, List.set_cons_succ, List.getElem_toArray, List.getElem_cons_succ, List.getElem_cons_zero]
  refine take_S (v := ?v2x) 2 rfl (by kernel_rfl) (by kernel_rfl) (by kernel_rfl) (by kernel_rfl) (fun _ _ _ h => h) hS (fun _ => trivial) rfl (fun w' hq => ?h2x) ?_
  case h2x => obtain ⟨hq0, hq1, hq2⟩ := hq; change _ = some _ at hq0; change _ = some _ at hq1; change _ = some _ at hq2; go_simp; try with_reducible rfl
  try simp only [Act.put, List.setIfInBounds_toArray, List.set_cons_zero, List.set_cons_succ, List.getElem_toArray, List.getElem_cons_succ, List.getElem_cons_zero]
  refine take_S (v := ?v3x) 3 rfl (by kernel_rfl) (by kernel_rfl) (by kernel_rfl) (by kernel_rfl) (fun _ _ _ h => h) hS (fun _ => trivial) rfl (fun w' hq => ?h3x) ?_
  case h3x => obtain ⟨hq0, hq1, hq2⟩ := hq; change _ = some _ at hq0; change _ = some _ at hq1; change _ = some _ at hq2; go_simp; try with_reducible rfl
  try simp only [Act.put, List.setIfInBounds_toArray, List.set_cons_zero, List.set_cons_succ, List.getElem_toArray, List.getElem_cons_succ, List.getElem_cons_zero]
  refine take_S (v := ?v4x) 4 rfl (by kernel_rfl) (by kernel_rfl) (by kernel_rfl) (by kernel_rfl) (fun _ _ _ h => h) hS (fun _ => trivial) rfl (fun w' hq => ?h4x) ?_
  case h4x => obtain ⟨hq0, hq1, hq2⟩ := hq; change _ = some _ at hq0; change _ = some _ at hq1; change _ = some _ at hq2; go_simp; try with_reducible rfl
  try simp only [Act.put, List.setIfInBounds_toArray, List.set_cons_zero, List.set_cons_succ, List.getElem_toArray, List.getElem_cons_succ, List.getElem_cons_zero]
  refine take_S (v := ?v5x) 5 rfl (by kernel_rfl) (by kernel_rfl) (by kernel_rfl) (by kernel_rfl) (fun _ _ _ h => h) hS (fun _ => trivial) rfl (fun w' hq => ?h5x) ?_
  case h5x => obtain ⟨hq0, hq1, hq2⟩ := hq; change _ = some _ at hq0; change _ = some _ at hq1; change _ = some _ at hq2; go_simp; try with_reducible rfl
  try simp only [Act.put, List.setIfInBounds_toArray, List.set_cons_zero, List.set_cons_succ, List.getElem_toArray, List.getElem_cons_succ, List.getElem_cons_zero]
  refine take_S (v := ?v6x) 6 rfl (by kernel_rfl) (by kernel_rfl) (by kernel_rfl) (by kernel_rfl) (fun _ _ _ h => h) hS (fun _ => trivial) rfl (fun w' hq => ?h6x) ?_
  case h6x => obtain ⟨hq0, hq1, hq2⟩ := hq; change _ = some _ at hq0; change _ = some _ at hq1; change _ = some _ at hq2; go_simp; try with_reducible rfl
  try simp only [Act.put, List.setIfInBounds_toArray, List.set_cons_zero, List.set_cons_succ, List.getElem_toArray, List.getElem_cons_succ, List.getElem_cons_zero]
  refine done_D (by kernel_rfl) ?_ _
  clear hS hT
  go_wp2_with fail
  have hS : Hold0 w.drew.drew := trivial
  have hT : noLate [8] (Array.replicate 9 false) = true → Hold3 (gN, 0, .int .i64 n) (gR, 0, .pointer (some ⟨a, 0, none⟩)) (a, 0, .slice p bs.length c) w.drew.drew := fun _ => ⟨n0, r0, a0⟩
  refine begin_D [8] (by kernel_rfl) hS hT ?_
  replace hT := hT rfl
  refine take_T (v := ?v0y) 0 rfl (by kernel_rfl) (by kernel_rfl) (by kernel_rfl) (by kernel_rfl) (by kernel_rfl) (by kernel_rfl) (fun _ _ _ h => h) hS (fun _ => hT) rfl (fun w' hq hr => ?h0y) ?_
  case h0y => obtain ⟨hq0, hq1, hq2⟩ := hr; change _ = some _ at hq0; change _ = some _ at hq1; change _ = some _ at hq2; go_simp; try with_reducible rfl
  try simp only [Act.put, List.setIfInBounds_toArray, List.set_cons_zero, List.set_cons_succ, List.getElem_toArray, List.getElem_cons_succ, List.getElem_cons_zero]
  refine take_T (v := ?v1y) 1 rfl (by kernel_rfl) (by kernel_rfl) (by kernel_rfl) (by kernel_rfl) (by kernel_rfl) (by kernel_rfl) (fun _ _ _ h => h) hS (fun _ => hT) rfl (fun w' hq hr => ?h1y) ?_
  case h1y => obtain ⟨hq0, hq1, hq2⟩ := hr; change _ = some _ at hq0; change _ = some _ at hq1; change _ = some _ at hq2; go_simp; try with_reducible rfl
  try simp only [Act.put, List.setIfInBounds_toArray, List.set_cons_zero, List.set_cons_succ, List.getElem_toArray, List.getElem_cons_succ, List.getElem_cons_zero]
  refine take_T (v := ?v2y) 2 rfl (by kernel_rfl) (by kernel_rfl) (by kernel_rfl) (by kernel_rfl) (by kernel_rfl) (by kernel_rfl) (fun _ _ _ h => h) hS (fun _ => hT) rfl (fun w' hq hr => ?h2y) ?_
  case h2y => obtain ⟨hq0, hq1, hq2⟩ := hr; change _ = some _ at hq0; change _ = some _ at hq1; change _ = some _ at hq2; go_simp; try with_reducible rfl
  try simp only [Act.put, List.setIfInBounds_toArray, List.set_cons_zero, List.set_cons_succ, List.getElem_toArray, List.getElem_cons_succ, List.getElem_cons_zero]
  refine take_T (v := ?v3y) 3 rfl (by kernel_rfl) (by kernel_rfl) (by kernel_rfl) (by kernel_rfl) (by kernel_rfl) (by kernel_rfl) (fun _ _ _ h => h) hS (fun _ => hT) rfl (fun w' hq hr => ?h3y) ?_
  case h3y => obtain ⟨hq0, hq1, hq2⟩ := hr; change _ = some _ at hq0; change _ = some _ at hq1; change _ = some _ at hq2; go_simp; try with_reducible rfl
  try simp only [Act.put, List.setIfInBounds_toArray, List.set_cons_zero, List.set_cons_succ, List.getElem_toArray, List.getElem_cons_succ, List.getElem_cons_zero]
  refine take_T (v := ?v4y) 4 rfl (by kernel_rfl) (by kernel_rfl) (by kernel_rfl) (by kernel_rfl) (by kernel_rfl) (by kernel_rfl) (fun _ _ _ h => h) hS (fun _ => hT) rfl (fun w' hq hr => ?h4y) ?_
  case h4y => obtain ⟨hq0, hq1, hq2⟩ := hr; change _ = some _ at hq0; change _ = some _ at hq1; change _ = some _ at hq2; go_simp; try with_reducible rfl
  try simp only [Act.put, List.setIfInBounds_toArray, List.set_cons_zero, List.set_cons_succ, List.getElem_toArray, List.getElem_cons_succ, List.getElem_cons_zero]
  refine take_T (v := ?v5y) 5 rfl (by kernel_rfl) (by kernel_rfl) (by kernel_rfl) (by kernel_rfl) (by kernel_rfl) (by kernel_rfl) (fun _ _ _ h => h) hS (fun _ => hT) rfl (fun w' hq hr => ?h5y) ?_
  case h5y => obtain ⟨hq0, hq1, hq2⟩ := hr; change _ = some _ at hq0; change _ = some _ at hq1; change _ = some _ at hq2; go_simp; try with_reducible rfl
  try simp only [Act.put, List.setIfInBounds_toArray, List.set_cons_zero, List.set_cons_succ, List.getElem_toArray, List.getElem_cons_succ, List.getElem_cons_zero]
  refine take_T (v := ?v6y) 6 rfl (by kernel_rfl) (by kernel_rfl) (by kernel_rfl) (by kernel_rfl) (by kernel_rfl) (by kernel_rfl) (fun _ _ _ h => h) hS (fun _ => hT) rfl (fun w' hq hr => ?h6y) ?_
  case h6y => obtain ⟨hq0, hq1, hq2⟩ := hr; change _ = some _ at hq0; change _ = some _ at hq1; change _ = some _ at hq2; go_simp; try with_reducible rfl
  try simp only [Act.put, List.setIfInBounds_toArray, List.set_cons_zero, List.set_cons_succ, List.getElem_toArray, List.getElem_cons_succ, List.getElem_cons_zero]
  refine one_D 7 rfl (by kernel_rfl) (fun KQ hK => ?_)
  go_simp
  have hfr := (CmdRd.front3 HR.out hn').drew.drew
  refine (bytes_Clone (n := n) (cs := bcells (bs.take n)) hfr (bcells_one _) (by omega)).mono ?_
  rintro x w1 ⟨p1, c1, rfl, ho0, hX0⟩
  have hX : Below w.heap.size w w1 := (Below.refl w.heap.size w).drew.drew.trans hX0
  have ho : w1.ownsRow w.heap.size 5 1 (.slice p1 n c1) n (bcells (bs.take n)) := ho0
  have hT1 : Hold3 (gN, 0, .int .i64 n) (gR, 0, .pointer (some ⟨a, 0, none⟩)) (a, 0, .slice p bs.length c) w1 := ⟨(hX.cell (p := ⟨gN, 0, none⟩) hz1).trans n0, (hX.cell (p := ⟨gR, 0, none⟩) hz2).trans r0, (hX.cell (p := ⟨a, 0, none⟩) hz).trans a0⟩
  have kB1 := Blk.below KB.out hX
  obtain ⟨b0, b1, hz3⟩ := kB1.c1
  have KB1 := Lib.hid kB1
  have HO := Lib.hid ho
  have HX := Lib.hid hX
  refine hK.out _ _ trivial (fun _ => hT1) ?_
  clear hK hS hT ho hX ho0 hX0 kB1 hfr
  refine one_D 8 rfl (by kernel_rfl) (fun KQ hK => ?_)
  go_simp
  refine hK.out _ _ trivial (fun h => absurd h (by decide)) ?_
  refine done_D (by kernel_rfl) ?_ _
  clear hK
  have hn0 := hT1.1
  change _ = some _ at hn0
  have kB2 : Blk (w1.setCell ⟨gB, 0, none⟩ (.slice p1 n c1)) gB 23 #[.slice p1 n c1] := by simpa using KB1.out.set_ 0 (.slice p1 n c1)
  have hne : gN ≠ gB := fun e => HNe.out e
  have hnc0 := (cell_far (i := 0) (j := 0) (u := .slice p1 n c1) hne).trans hn0
  have KB2 := Lib.hid kB2
  clear kB2 hT1
  go_wp2_with fail
  go_ret2
  exact ⟨rfl, p1, c1, KB2.out, own_set HO.out KB1.out (by decide) _ _, (Ext.of_below (fun k => k = gB) HX.out).set1 rfl⟩
end Go.Proofs.Ytgmlgdfgooacbaa
