/-
  at, and what goes through it: Get, From, Cut, Trim: contracts.
-/
import Derived.Test.YteijpcedggkdpaaLog
import Derived.Deep.RegionLaw
import Derived.BigQuiet
namespace Go.Proofs.Yteijpcedggkdpaa
open Go.RowKit

theorem enter_f (f : FuncId) (h : (Try.prog.funcs[f]?).any (fun fn => fn.name != "runtime.NumGoroutine" && fn.body.isSome) = true) (args : Array Value) (w : World) :
    (callFunc f args).run Try.prog w = .ok (.enter f args) w := by
  unfold callFunc
  cases hf : Try.prog.funcs[f]? with
  | none => rw [hf] at h; simp at h
  | some fn =>
    rw [hf] at h
    simp only [Option.any_some, Bool.and_eq_true, bne_iff_ne, ne_eq] at h
    obtain ⟨h1, h2⟩ := h
    cases hb : fn.body with
    | none => rw [hb] at h2; cases h2
    | some c => simp [program, Sem.run, hf, h1, hb]

set_option maxHeartbeats 800000 in
/-- An op within: the closure is called with how many stand up to it. -/
theorem log_at_ok {w : World} {b : Nat} {m op least : Int} {p : Option Addr} {n c : Nat} {f : FuncId} {cap : Array Value} {R : World → World → Prop} (h : Blk w b 56 #[.int .u64 m, .slice p n c, .bool true])
    (h0 : 0 ≤ m) (h1 : m ≤ 4611686018427387904) (h2 : n ≤ 64) (h3 : m + least ≤ op) (h4 : op ≤ m + n) (h5 : 0 ≤ least)
    (hf : ∀ args w, (callFunc f args).run Try.prog w = .ok (.enter f args) w) (hcall : Calls Try.prog f (#[.int .i64 (op - m)] ++ cap) w fun e w' => e = .returned (.tuple #[]) ∧ R w w') :
    Calls Try.prog 23 #[.pointer (some ⟨b, 0, none⟩), .int .u64 op, .int .u64 least, .func (.func f) #[] cap] w fun e w' => e = .returned (.int .i64 0) ∧ R w w' := by
  obtain ⟨a0, a1, a2, f0, f1, f2, hz⟩ := h.c3
  have H := Lib.hid h
  have Hc := Lib.hid hcall
  clear h hcall
  have t1 : decide (m + (n : Int) < op) = false := by simp; omega
  have t2 : decide (op < m) = false := by simp; omega
  go_enter Try.func23, Try.ntmps23
  go_wp2_with fail
  refine (log_none H.out).mono ?_
  rintro e w' ⟨rfl, rfl⟩
  go_wp2_with fail
  refine (log_Op H.out h0 h1 h2).mono ?_
  rintro e w' ⟨rfl, rfl⟩
  go_wp2_with fail
  refine Hc.out.mono ?_
  rintro e w' ⟨rfl, hR⟩
  have HR := Lib.hid hR
  clear hR
  go_wp2_with fail
  go_ret
  exact ⟨rfl, HR.out⟩

set_option maxHeartbeats 800000 in
/-- An op behind the log's. -/
theorem log_at_none {w : World} {b : Nat} {m op least : Int} {p : Option Addr} {n c : Nat} {d : Value} (h : Blk w b 56 #[.int .u64 m, .slice p n c, .bool true])
    (h0 : 0 ≤ m) (h1 : m ≤ 4611686018427387904) (h2 : n ≤ 64) (h4 : m + n < op) :
    Calls Try.prog 23 #[.pointer (some ⟨b, 0, none⟩), .int .u64 op, .int .u64 least, d] w fun e w' => e = .returned (.int .i64 6) ∧ w = w' := by
  have H := Lib.hid h
  clear h
  have t1 : decide (m + (n : Int) < op) = true := by simp; omega
  go_enter Try.func23, Try.ntmps23
  go_wp2_with fail
  refine (log_none H.out).mono ?_
  rintro e w' ⟨rfl, rfl⟩
  go_wp2_with fail
  refine (log_Op H.out h0 h1 h2).mono ?_
  rintro e w' ⟨rfl, rfl⟩
  go_wp2_with fail
  go_ret
  exact ⟨rfl, rfl⟩

set_option maxHeartbeats 800000 in
/-- An op ahead of the log's base. -/
theorem log_at_gone {w : World} {b : Nat} {m op least : Int} {p : Option Addr} {n c : Nat} {d : Value} (h : Blk w b 56 #[.int .u64 m, .slice p n c, .bool true])
    (h0 : 0 ≤ m) (h1 : m ≤ 4611686018427387904) (h2 : n ≤ 64) (h4 : op ≤ m + n) (h3 : op < m + least) :
    Calls Try.prog 23 #[.pointer (some ⟨b, 0, none⟩), .int .u64 op, .int .u64 least, d] w fun e w' => e = .returned (.int .i64 32) ∧ w = w' := by
  obtain ⟨a0, a1, a2, f0, f1, f2, hz⟩ := h.c3
  have H := Lib.hid h
  clear h
  have t1 : decide (m + (n : Int) < op) = false := by simp; omega
  by_cases hlt : op < m
  · have t2 : decide (op < m) = true := by simp; omega
    clear h3
    go_enter Try.func23, Try.ntmps23
    go_wp2_with fail
    refine (log_none H.out).mono ?_
    rintro e w' ⟨rfl, rfl⟩
    go_wp2_with fail
    refine (log_Op H.out h0 h1 h2).mono ?_
    rintro e w' ⟨rfl, rfl⟩
    go_wp2_with fail
    go_ret
    exact ⟨rfl, rfl⟩
  · have t2 : decide (op < m) = false := by simp; omega
    have t3 : decide (op - m < least) = true := by simp; omega
    go_enter Try.func23, Try.ntmps23
    go_wp2_with fail
    refine (log_none H.out).mono ?_
    rintro e w' ⟨rfl, rfl⟩
    go_wp2_with fail
    refine (log_Op H.out h0 h1 h2).mono ?_
    rintro e w' ⟨rfl, rfl⟩
    go_wp2_with fail
    go_ret
    exact ⟨rfl, rfl⟩
end Go.Proofs.Yteijpcedggkdpaa
