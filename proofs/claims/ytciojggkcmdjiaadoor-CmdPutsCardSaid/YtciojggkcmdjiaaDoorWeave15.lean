/-
  weave.Write: its contract.
-/
import Derived.Test.YtciojggkcmdjiaaDoorRow15
import Derived.Test.YtciojggkcmdjiaaDoorWri215
namespace Go.Proofs.YtciojggkcmdjiaaDoor
open Go.RowKit
set_option linter.unusedSimpArgs false
set_option linter.unusedVariables false

structure OkU (u : Ut) : Prop where
  kind : 0 ≤ u.kind ∧ u.kind ≤ 2
  pos : 0 ≤ u.pos ∧ u.pos ≤ 2147483648
  chr : 0 ≤ u.chr ∧ u.chr ≤ 1114111
  cl : 0 ≤ u.cl ∧ u.cl ≤ 4294967295
  rq : 0 ≤ u.rq ∧ u.rq ≤ 18446744073709551615
def unitNums (u : Ut) : List Nat := [u.kind.toNat, u.pos.toNat, u.chr.toNat, u.cl.toNat, u.rq.toNat]
def numsBytes (l : List Nat) : List UInt8 := l.flatMap Lib.uvarint
def unitBytes (u : Ut) : List UInt8 := numsBytes (unitNums u)
def rowBytes (us : List Ut) : List UInt8 := Lib.uvarint us.length ++ us.flatMap unitBytes
theorem numsBytes_len {l : List Nat} (h : ∀ n ∈ l, n < 18446744073709551616) : (numsBytes l).length ≤ 10 * l.length := by
  unfold numsBytes
  induction l with
  | nil => simp
  | cons n l ih =>
    have h1 := Lib.uvarint_length64 (h n List.mem_cons_self)
    have h2 := ih (fun m hm => h m (List.mem_cons_of_mem _ hm))
    simp only [List.flatMap_cons, List.length_append, List.length_cons]
    omega
theorem OkU.nums {u : Ut} (h : OkU u) : ∀ n ∈ unitNums u, n < 18446744073709551616 := by
  intro n hn
  have := h.kind; have := h.pos; have := h.chr; have := h.cl; have := h.rq
  simp only [unitNums, List.mem_cons, List.not_mem_nil, or_false] at hn
  rcases hn with rfl | rfl | rfl | rfl | rfl <;> omega
theorem unitBytes_len {u : Ut} (h : OkU u) : (unitBytes u).length ≤ 50 := numsBytes_len h.nums
theorem flatUnits_len {us : List Ut} (h : ∀ u ∈ us, OkU u) : (us.flatMap unitBytes).length ≤ 50 * us.length := by
  induction us with
  | nil => simp
  | cons u us ih =>
    have h1 := unitBytes_len (h u List.mem_cons_self)
    have h2 := ih (fun m hm => h m (List.mem_cons_of_mem _ hm))
    simp only [List.flatMap_cons, List.length_append, List.length_cons]
    omega
theorem ax0 (w : World) (a b c d e : Int) : Sem.run Tryd.prog (Instr.index 96 (Value.agg #[.int .u64 a, .int .u64 b, .int .u64 c, .int .u64 d, .int .u64 e]) (.int .i64 0)) w = .ok (.int .u64 a) w := by kernel_rfl
theorem ax1 (w : World) (a b c d e : Int) : Sem.run Tryd.prog (Instr.index 96 (Value.agg #[.int .u64 a, .int .u64 b, .int .u64 c, .int .u64 d, .int .u64 e]) (.int .i64 1)) w = .ok (.int .u64 b) w := by kernel_rfl
theorem ax2 (w : World) (a b c d e : Int) : Sem.run Tryd.prog (Instr.index 96 (Value.agg #[.int .u64 a, .int .u64 b, .int .u64 c, .int .u64 d, .int .u64 e]) (.int .i64 2)) w = .ok (.int .u64 c) w := by kernel_rfl
theorem ax3 (w : World) (a b c d e : Int) : Sem.run Tryd.prog (Instr.index 96 (Value.agg #[.int .u64 a, .int .u64 b, .int .u64 c, .int .u64 d, .int .u64 e]) (.int .i64 3)) w = .ok (.int .u64 d) w := by kernel_rfl
theorem ax4 (w : World) (a b c d e : Int) : Sem.run Tryd.prog (Instr.index 96 (Value.agg #[.int .u64 a, .int .u64 b, .int .u64 c, .int .u64 d, .int .u64 e]) (.int .i64 4)) w = .ok (.int .u64 e) w := by kernel_rfl
/-- A writer that holds so. -/
def WrAny (w : World) (a : Nat) (bs : List UInt8) : Prop := ∃ lo hi, WrAt w lo hi a bs
theorem wr_Any {w : World} {a n : Nat} {bs : List UInt8} (h : WrAny w a bs) (hn : n < 18446744073709551616) (hb : bs.length + 10 ≤ 140737488355328) :
    Calls Tryd.prog 19 #[.pointer (some ⟨a, 0, none⟩), .int .u64 n] w fun e w' => e = .returned (.tuple #[]) ∧ WrAny w' a (bs ++ Lib.uvarint n) ∧ Ext (· = a) w w' := by
  obtain ⟨lo, hi, h⟩ := h
  exact (wr_Num h hn hb).mono fun e w' ⟨h1, h2, h3⟩ => ⟨h1, ⟨_, _, h2⟩, h3⟩
set_option maxHeartbeats 6400000 in
set_option maxRecDepth 100000 in
theorem weave_Write {w : World} {S : Nat → Prop} {a : Nat} {bs : List UInt8} {v : Value} {us : List Ut} (hw : WrAny w a bs) (h : UtsRd w S v us) (hS : ¬ S a) (hok : ∀ u ∈ us, OkU u) (hl : us.length ≤ 1000000) (hb : bs.length ≤ 1000000) :
    Calls Tryd.prog 21 #[.pointer (some ⟨a, 0, none⟩), v] w fun e w' => e = .returned (.tuple #[]) ∧ WrAny w' a (bs ++ rowBytes us) ∧ Ext (· = a) w w' := by
  obtain ⟨p, c, rfl⟩ := h.slice
  have H := Lib.hid h
  have HW := Lib.hid hw
  have Hok := Lib.hid hok
  clear h hw hok
  have q1 : IntKind.u64.wrap (us.length : Int) = us.length := IntWalk.u64_in _ (by omega)
  go_enter Tryd.func21, Tryd.ntmps21
  go_wp2_with fail
  refine (wr_Any HW.out (by omega) (by omega)).mono ?_
  rintro _ w1 ⟨rfl, hw1, hE1⟩
  have HW1 := Lib.hid hw1
  have HE1 := Lib.hid hE1
  have hu10 := Lib.uvarint_length64 (x := us.length) (by omega)
  clear hw1 hE1 HW q1
  go_wp2_with fail
  go_loopw [15] (fun iv wr => ∃ k : Nat, k ≤ us.length ∧ iv = .int .i64 k ∧ Hid (WrAny wr a (bs ++ Lib.uvarint us.length ++ (us.take k).flatMap unitBytes) ∧ Ext (· = a) w wr)) (fun iv _ => us.length - (intOf iv).toNat)
  case atStart => exact ⟨0, Nat.zero_le _, rfl, Lib.hid ⟨by simpa using HW1.out, HE1.out⟩⟩
  case round =>
    obtain ⟨k, hk, rfl, hR⟩ := hrel
    by_cases hlt : k < us.length
    · obtain ⟨g, off, rfl, hc, e0, e1, e2, e3, e4⟩ := (H.out.keep (S' := S) (fun j hj hSj => hR.out.2.block j hj (fun e => hS (e ▸ hSj))) (fun _ h _ => h)).at_ hlt
      have Htk := Lib.hid (show us.take (k + 1) = us.take k ++ [us[k]] from List.take_succ_eq_append_getElem hlt)
      have Hou := Lib.hid (Hok.out us[k] (List.getElem_mem hlt))
      generalize us[k]'hlt = u at *
      obtain ⟨n0, hn0⟩ := Int.eq_ofNat_of_zero_le Hou.out.kind.1
      obtain ⟨n1, hn1⟩ := Int.eq_ofNat_of_zero_le Hou.out.pos.1
      obtain ⟨n2, hn2⟩ := Int.eq_ofNat_of_zero_le Hou.out.chr.1
      obtain ⟨n3, hn3⟩ := Int.eq_ofNat_of_zero_le Hou.out.cl.1
      obtain ⟨n4, hn4⟩ := Int.eq_ofNat_of_zero_le Hou.out.rq.1
      rw [hn0] at e0
      rw [hn1] at e1
      rw [hn2] at e2
      rw [hn3] at e3
      rw [hn4] at e4
      have b0 : n0 ≤ 2 := by have := Hou.out.kind; omega
      have b1 : n1 ≤ 2147483648 := by have := Hou.out.pos; omega
      have b2 : n2 ≤ 1114111 := by have := Hou.out.chr; omega
      have b3 : n3 ≤ 4294967295 := by have := Hou.out.cl; omega
      have b4 : n4 ≤ 18446744073709551615 := by have := Hou.out.rq; omega
      have Hnums := Lib.hid (show unitNums u = [n0, n1, n2, n3, n4] from by unfold unitNums; rw [hn0, hn1, hn2, hn3, hn4]; rfl)
      have c0 : IntKind.u64.wrap (n0 : Int) = n0 := IntWalk.u64_in _ (by omega)
      have c1 : IntKind.u64.wrap (n1 : Int) = n1 := IntWalk.u64_in _ (by omega)
      have c2 : IntKind.u64.wrap (n2 : Int) = n2 := IntWalk.u64_in _ (by omega)
      have c3 : IntKind.u64.wrap (n3 : Int) = n3 := IntWalk.u64_in _ (by omega)
      have HWk := Lib.hid hR.out.1
      have HEk := Lib.hid hR.out.2
      clear hn0 hn1 hn2 hn3 hn4 hR HW1 HE1
      go_wp2_with fail
      obtain ⟨base, hbase⟩ : ∃ x, bs ++ Lib.uvarint us.length ++ (us.take k).flatMap unitBytes = x := ⟨_, rfl⟩
      have Hbl := Lib.hid (show base.length ≤ 60000000 from by
        have := flatUnits_len (us := us.take k) (fun u hu => Hok.out u (List.mem_of_mem_take hu))
        rw [List.length_take] at this
        rw [← hbase, List.length_append, List.length_append]
        omega)
      have Hln := Lib.hid (show ∀ j, (numsBytes ([n0, n1, n2, n3, n4].take j)).length ≤ 50 from fun j => by
        have := numsBytes_len (l := [n0, n1, n2, n3, n4].take j) (fun n hn => by rw [← Hnums.out] at hn; exact Hou.out.nums n (List.mem_of_mem_take hn))
        rw [List.length_take] at this
        simp only [List.length_cons, List.length_nil] at this
        omega)
      have hba := (Below.refl wr.heap.size wr).alloc (Nat.le_refl _) (.cells #[.int .i64 n0, .int .i64 n1, .int .i32 n2, .int .u32 n3, .int .u64 n4] 78)
      have HY0 := Lib.hid (show WrAny (wr.alloc (.cells #[.int .i64 n0, .int .i64 n1, .int .i32 n2, .int .u32 n3, .int .u64 n4] 78)) a (base ++ numsBytes ([n0, n1, n2, n3, n4].take 0)) ∧ Ext (· = a) w (wr.alloc (.cells #[.int .i64 n0, .int .i64 n1, .int .i32 n2, .int .u32 n3, .int .u64 n4] 78)) from ⟨by
        obtain ⟨lo, hi, hh⟩ := HWk.out
        rw [hbase] at hh
        simpa [numsBytes] using (show WrAny _ a base from ⟨lo, hi, hh.below hba⟩), HEk.out.trans (Ext.of_below _ hba)⟩)
      have Hbase := Lib.hid hbase
      clear hba hbase HWk HEk e0 e1 e2 e3 e4 c0 c1 c2 c3
      generalize wr.alloc (.cells #[.int .i64 n0, .int .i64 n1, .int .i32 n2, .int .u32 n3, .int .u64 n4] 78) = W1 at *
      go_loopw [39] (fun iv wy => ∃ j : Nat, j ≤ 5 ∧ iv = .int .i64 j ∧ Hid (WrAny wy a (base ++ numsBytes ([n0, n1, n2, n3, n4].take j)) ∧ Ext (· = a) w wy)) (fun iv _ => 5 - (intOf iv).toNat)
      case atStart => exact ⟨0, by omega, rfl, HY0⟩
      case round =>
        obtain ⟨j, hj, rfl, hY⟩ := hrel
        rcases (show j = 0 ∨ j = 1 ∨ j = 2 ∨ j = 3 ∨ j = 4 ∨ j = 5 by omega) with rfl | rfl | rfl | rfl | rfl | rfl
        · have hx := ax0
          go_wp2_with fail
          refine (wr_Any (n := n0) hY.out.1 (by omega) (by have := Hln.out 0; have := Hbl.out; rw [List.length_append]; omega)).mono ?_
          rintro _ w5 ⟨rfl, hw5, hE5⟩
          have HY5 := Lib.hid (show WrAny w5 a (base ++ numsBytes ([n0, n1, n2, n3, n4].take 1)) ∧ Ext (· = a) w w5 from ⟨by
            have := hw5
            rw [List.append_assoc] at this
            simpa [numsBytes] using this, hY.out.2.trans hE5⟩)
          clear hw5 hE5 hY
          go_wp2_with fail
          go_roundw
          case rel => exact ⟨1, by omega, by go_num, HY5⟩
          case measure => simp [intOf]
        · have hx := ax1
          go_wp2_with fail
          refine (wr_Any (n := n1) hY.out.1 (by omega) (by have := Hln.out 1; have := Hbl.out; rw [List.length_append]; omega)).mono ?_
          rintro _ w5 ⟨rfl, hw5, hE5⟩
          have HY5 := Lib.hid (show WrAny w5 a (base ++ numsBytes ([n0, n1, n2, n3, n4].take 2)) ∧ Ext (· = a) w w5 from ⟨by
            have := hw5
            rw [List.append_assoc] at this
            simpa [numsBytes] using this, hY.out.2.trans hE5⟩)
          clear hw5 hE5 hY
          go_wp2_with fail
          go_roundw
          case rel => exact ⟨2, by omega, by go_num, HY5⟩
          case measure => simp [intOf]
        · have hx := ax2
          go_wp2_with fail
          refine (wr_Any (n := n2) hY.out.1 (by omega) (by have := Hln.out 2; have := Hbl.out; rw [List.length_append]; omega)).mono ?_
          rintro _ w5 ⟨rfl, hw5, hE5⟩
          have HY5 := Lib.hid (show WrAny w5 a (base ++ numsBytes ([n0, n1, n2, n3, n4].take 3)) ∧ Ext (· = a) w w5 from ⟨by
            have := hw5
            rw [List.append_assoc] at this
            simpa [numsBytes] using this, hY.out.2.trans hE5⟩)
          clear hw5 hE5 hY
          go_wp2_with fail
          go_roundw
          case rel => exact ⟨3, by omega, by go_num, HY5⟩
          case measure => simp [intOf]
        · have hx := ax3
          go_wp2_with fail
          refine (wr_Any (n := n3) hY.out.1 (by omega) (by have := Hln.out 3; have := Hbl.out; rw [List.length_append]; omega)).mono ?_
          rintro _ w5 ⟨rfl, hw5, hE5⟩
          have HY5 := Lib.hid (show WrAny w5 a (base ++ numsBytes ([n0, n1, n2, n3, n4].take 4)) ∧ Ext (· = a) w w5 from ⟨by
            have := hw5
            rw [List.append_assoc] at this
            simpa [numsBytes] using this, hY.out.2.trans hE5⟩)
          clear hw5 hE5 hY
          go_wp2_with fail
          go_roundw
          case rel => exact ⟨4, by omega, by go_num, HY5⟩
          case measure => simp [intOf]
        · have hx := ax4
          go_wp2_with fail
          refine (wr_Any (n := n4) hY.out.1 (by omega) (by have := Hln.out 4; have := Hbl.out; rw [List.length_append]; omega)).mono ?_
          rintro _ w5 ⟨rfl, hw5, hE5⟩
          have HY5 := Lib.hid (show WrAny w5 a (base ++ numsBytes ([n0, n1, n2, n3, n4].take 5)) ∧ Ext (· = a) w w5 from ⟨by
            have := hw5
            rw [List.append_assoc] at this
            simpa [numsBytes] using this, hY.out.2.trans hE5⟩)
          clear hw5 hE5 hY
          go_wp2_with fail
          go_roundw
          case rel => exact ⟨5, by omega, by go_num, HY5⟩
          case measure => simp [intOf]
        · have HZ := Lib.hid (show WrAny wr a (bs ++ Lib.uvarint us.length ++ (us.take (k + 1)).flatMap unitBytes) ∧ Ext (· = a) w wr from ⟨by
            have := hY.out.1
            rw [← Hbase.out, List.append_assoc] at this
            rw [Htk.out, List.flatMap_append, ← List.append_assoc]
            simpa [unitBytes, Hnums.out, List.flatMap_cons] using this, hY.out.2⟩)
          clear hY
          go_wp2_with fail
          go_roundw
          case rel => exact ⟨k + 1, by omega, by go_num, HZ⟩
          case measure => simp [intOf]; omega
    · obtain rfl : k = us.length := by omega
      have HWk := Lib.hid (show WrAny wr a (bs ++ rowBytes us) from by
        have := hR.out.1
        rw [List.take_length, List.append_assoc] at this
        exact this)
      have HEk := Lib.hid hR.out.2
      clear hR HW1 HE1
      go_wp2_with fail
      exact bodyPost_end (results_none rfl _ _ _) rfl ⟨rfl, HWk.out, HEk.out⟩
end Go.Proofs.YtciojggkcmdjiaaDoor
