/-
  bytes.Equal, logs.Same, the reference's Same: the contracts. (Printed by wip/gen_same.py.)
-/
import Derived.Test.YtgmekodfkhihiaaEnt22
import Derived.Test.YtgmekodfkhihiaaOrd
import Derived.Laws.BytesArg
namespace Go.Proofs.Ytgmekodfkhihiaa
open Go.RowKit
set_option linter.unusedSimpArgs false

theorem nums_str (bs : List UInt8) : strOfNums (bs.map fun b => (b.toNat : Int)) = ⟨bs.toArray⟩ := by
  unfold strOfNums
  rw [List.map_map]
  have h : ∀ b ∈ bs, ((fun n : Int => UInt8.ofNat n.toNat) ∘ fun b : UInt8 => (b.toNat : Int)) b = b := fun b _ => by simp
  rw [List.map_congr_left h, List.map_id']

theorem run_convert_zero (w : World) (src e : TypeId) (hs : Try.prog.underlying src = some (.slice e)) (he : Try.prog.underlying e = some (.int .u8)) (p : Option Addr) (c dst : Nat) (hd : Try.prog.underlying dst = some .string) :
    (convert src dst (.slice p 0 c)).run Try.prog w = .ok (.string ⟨#[]⟩) w := by
  cases p with
  | none => exact run_convert_bytes_nil w src e hs he 0 c dst hd
  | some a =>
    rw [run_convert_bytes_string w src dst e _ 0 c hs he hd]
    simp [Conv.bytesToString, loadCells, loadCellsFrom]
    rfl

/-- 'string(b)'. -/
theorem Rd.str {w : World} {S : Nat → Prop} {p : Option Addr} {c : Nat} {bs : List UInt8} (h : Rd w S 1 (.slice p bs.length c) bs.length (bcells bs)) :
    (convert 30 9 (.slice p bs.length c)).run Try.prog w = .ok (.string ⟨bs.toArray⟩) w := by
  rcases Nat.eq_zero_or_pos bs.length with h0 | h0
  · have : bs = [] := List.eq_nil_of_length_eq_zero h0
    subst this
    exact run_convert_zero w _ 5 Try.underlying30 Try.underlying5 p c _ Try.underlying9
  · obtain ⟨b, off, he, _, _, hc⟩ := Rd.addr h h0
    subst he
    rw [← nums_str]
    refine run_convert_bytes_arg w _ 5 Try.underlying30 Try.underlying5 b off bs.length c (bs.map fun b => (b.toNat : Int)) (by simp) ?_ _ Try.underlying9
    intro i hi
    refine hc i _ ?_
    simp [bcells, List.getElem?_eq_getElem hi]

set_option maxHeartbeats 400000 in
theorem bytes_Equal {w : World} {S T : Nat → Prop} {v u : Value} {a b : List UInt8} (h : CmdRd w S v a) (k : CmdRd w T u b) :
    Calls Try.prog 37 #[v, u] w fun e w' => e = .returned (.bool (a == b)) ∧ w = w' := by
  obtain ⟨p, c, rfl⟩ := Rd.slice h
  obtain ⟨q, d, rfl⟩ := Rd.slice k
  have h1 := Rd.str h
  have h2 := Rd.str k
  clear h k
  go_enter Try.func37, Try.ntmps37
  go_wp2
  go_ret
  exact ⟨rfl, rfl⟩

/-- Two entries, one data. -/
def sameB (e f : Ent) : Bool := e.t == f.t && (e.c == f.c && (e.r == f.r && e.cmd == f.cmd))

set_option maxHeartbeats 800000 in
theorem log_Same {w : World} {S T : Nat → Prop} {s u : Value} {e f : Ent} (h : CmdRd w S s e.cmd) (k : CmdRd w T u f.cmd) :
    Calls Try.prog 13 #[entVal e s, entVal f u] w fun x w' => x = .returned (.bool (sameB e f)) ∧ Below w.heap.size w w' := by
  obtain ⟨p, c, rfl⟩ := Rd.slice h
  obtain ⟨q, d, rfl⟩ := Rd.slice k
  have H := Lib.hid h
  have K := Lib.hid k
  clear h k
  unfold entVal
  by_cases h1 : (e.t == f.t) = true
  · by_cases h2 : (e.c == f.c) = true
    · by_cases h3 : (e.r == f.r) = true
      · have hv : sameB e f = (e.cmd == f.cmd) := by simp only [sameB, h1, h2, h3, Bool.true_and]
        have Hv := Lib.hid hv
        clear hv
        go_enter Try.func13, Try.ntmps13
        go_wp2_with fail
        refine (bytes_Equal (S := S) (T := T) (Rd.alloc (Rd.alloc H.out (by decide) _) (by decide) _) (Rd.alloc (Rd.alloc K.out (by decide) _) (by decide) _)).mono ?_
        rintro x w1 ⟨rfl, rfl⟩
        go_wp2_with fail
        go_ret
        exact ⟨by rw [Hv.out]; rfl, ((Below.refl _ _).alloc (Nat.le_refl _) _).alloc (by simp) _⟩
      · have hv : sameB e f = false := by simp only [sameB, h1, h2, h3, Bool.true_and, Bool.false_and]
        have h3' : (e.r == f.r) = false := by simpa using h3
        have Hv := Lib.hid hv
        clear hv h3
        go_enter Try.func13, Try.ntmps13
        go_wp2_with fail
        go_ret
        exact ⟨by rw [Hv.out]; rfl, ((Below.refl _ _).alloc (Nat.le_refl _) _).alloc (by simp) _⟩
    · have hv : sameB e f = false := by simp only [sameB, h1, h2, Bool.true_and, Bool.false_and]
      have h2' : (e.c == f.c) = false := by simpa using h2
      have Hv := Lib.hid hv
      clear hv h2
      go_enter Try.func13, Try.ntmps13
      go_wp2_with fail
      go_ret
      exact ⟨by rw [Hv.out]; rfl, ((Below.refl _ _).alloc (Nat.le_refl _) _).alloc (by simp) _⟩
  · have hv : sameB e f = false := by simp only [sameB, h1, Bool.false_and]
    have h1' : (e.t == f.t) = false := by simpa using h1
    have Hv := Lib.hid hv
    clear hv h1
    go_enter Try.func13, Try.ntmps13
    go_wp2_with fail
    go_ret
    exact ⟨by rw [Hv.out]; rfl, ((Below.refl _ _).alloc (Nat.le_refl _) _).alloc (by simp) _⟩

set_option maxHeartbeats 800000 in
theorem ref_Same {w : World} {S T : Nat → Prop} {s u : Value} {e f : Ent} (h : CmdRd w S s e.cmd) (k : CmdRd w T u f.cmd) :
    Calls Try.prog 57 #[entVal e s, entVal f u] w fun x w' => x = .returned (.bool (sameB e f)) ∧ Below w.heap.size w w' := by
  obtain ⟨p, c, rfl⟩ := Rd.slice h
  obtain ⟨q, d, rfl⟩ := Rd.slice k
  have H := Lib.hid h
  have K := Lib.hid k
  clear h k
  unfold entVal
  by_cases h1 : (e.t == f.t) = true
  · by_cases h2 : (e.c == f.c) = true
    · by_cases h3 : (e.r == f.r) = true
      · have hv : sameB e f = (e.cmd == f.cmd) := by simp only [sameB, h1, h2, h3, Bool.true_and]
        have Hv := Lib.hid hv
        clear hv
        have s1 := Rd.str (Rd.alloc (Rd.alloc H.out (by decide) (.cells #[.int .u64 e.t, .int .u32 e.c, .int .u64 e.r, .slice p e.cmd.length c] 32)) (by decide) (.cells #[.int .u64 f.t, .int .u32 f.c, .int .u64 f.r, .slice q f.cmd.length d] 32))
        have s2 := Rd.str (Rd.alloc (Rd.alloc K.out (by decide) (.cells #[.int .u64 e.t, .int .u32 e.c, .int .u64 e.r, .slice p e.cmd.length c] 32)) (by decide) (.cells #[.int .u64 f.t, .int .u32 f.c, .int .u64 f.r, .slice q f.cmd.length d] 32))
        go_enter Try.func57, Try.ntmps57
        go_wp2_with fail
        go_ret
        exact ⟨by rw [Hv.out]; rfl, ((Below.refl _ _).alloc (Nat.le_refl _) _).alloc (by simp) _⟩
      · have hv : sameB e f = false := by simp only [sameB, h1, h2, h3, Bool.true_and, Bool.false_and]
        have h3' : (e.r == f.r) = false := by simpa using h3
        have Hv := Lib.hid hv
        clear hv h3
        go_enter Try.func57, Try.ntmps57
        go_wp2_with fail
        go_ret
        exact ⟨by rw [Hv.out]; rfl, ((Below.refl _ _).alloc (Nat.le_refl _) _).alloc (by simp) _⟩
    · have hv : sameB e f = false := by simp only [sameB, h1, h2, Bool.true_and, Bool.false_and]
      have h2' : (e.c == f.c) = false := by simpa using h2
      have Hv := Lib.hid hv
      clear hv h2
      go_enter Try.func57, Try.ntmps57
      go_wp2_with fail
      go_ret
      exact ⟨by rw [Hv.out]; rfl, ((Below.refl _ _).alloc (Nat.le_refl _) _).alloc (by simp) _⟩
  · have hv : sameB e f = false := by simp only [sameB, h1, Bool.false_and]
    have h1' : (e.t == f.t) = false := by simpa using h1
    have Hv := Lib.hid hv
    clear hv h1
    go_enter Try.func57, Try.ntmps57
    go_wp2_with fail
    go_ret
    exact ⟨by rw [Hv.out]; rfl, ((Below.refl _ _).alloc (Nat.le_refl _) _).alloc (by simp) _⟩
end Go.Proofs.Ytgmekodfkhihiaa
