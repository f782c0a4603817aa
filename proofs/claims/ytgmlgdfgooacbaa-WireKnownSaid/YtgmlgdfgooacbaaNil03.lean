/-
  The reader that is none, and one that New did not make: contracts.
-/
import Derived.Test.YtgmlgdfgooacbaaRdr3
import Derived.Test.YtgmlgdfgooacbaaWri2
namespace Go.Proofs.Ytgmlgdfgooacbaa
open Go.RowKit
set_option linter.unusedSimpArgs false
set_option linter.unusedVariables false

theorem nil_Err {w : World} : Calls Try.prog 22 #[.pointer none] w fun e w' => e = .returned (.int .i64 2) ∧ w = w' := by
  go_enter Try.func22, Try.ntmps22
  go_wp2
  go_ret
  exact ⟨rfl, rfl⟩
theorem zero_Err {w : World} {g : Nat} (h : Blk w g 61 #[.slice none 0 0, .int .i64 0, .bool false]) : Calls Try.prog 22 #[.pointer (some ⟨g, 0, none⟩)] w fun e w' => e = .returned (.int .i64 2) ∧ w = w' := by
  obtain ⟨a0, a1, a2, f0, f1, f2, hz⟩ := h.c3
  clear h
  go_enter Try.func22, Try.ntmps22
  go_wp2
  go_ret
  exact ⟨rfl, rfl⟩
theorem nil_Fail {w : World} {x : Int} : Calls Try.prog 32 #[.pointer none, .int .i64 x] w fun e w' => e = .returned (.tuple #[]) ∧ w = w' := by
  go_enter Try.func32, Try.ntmps32
  go_wp2_with fail
  refine nil_Err.mono ?_
  rintro e w' ⟨rfl, rfl⟩
  go_wp2_with fail
  exact bodyPost_end (results_none rfl _ _ _) rfl ⟨rfl, rfl⟩
theorem nil_Left {w : World} : Calls Try.prog 28 #[.pointer none] w fun e w' => e = .returned (.int .i64 0) ∧ w = w' := by
  go_enter Try.func28, Try.ntmps28
  go_wp2_with fail
  refine nil_Err.mono ?_
  rintro e w' ⟨rfl, rfl⟩
  go_wp2_with fail
  go_ret
  exact ⟨rfl, rfl⟩
theorem nil_End {w : World} : Calls Try.prog 31 #[.pointer none] w fun e w' => e = .returned (.int .i64 2) ∧ w = w' := by
  go_enter Try.func31, Try.ntmps31
  go_wp2_with fail
  refine nil_Left.mono ?_
  rintro e w' ⟨rfl, rfl⟩
  go_wp2_with fail
  refine nil_Err.mono ?_
  rintro e w' ⟨rfl, rfl⟩
  go_wp2_with fail
  go_ret
  exact ⟨rfl, rfl⟩
theorem nil_reads {w : World} {d : Value} : Calls Try.prog 39 #[.pointer none, d] w fun x w' => x = .returned (.tuple #[]) ∧ w = w' := by
  go_enter Try.func39, Try.ntmps39
  go_wp2_with fail
  refine nil_Err.mono ?_
  rintro e w' ⟨rfl, rfl⟩
  go_wp2_with fail
  exact bodyPost_ret (v := .tuple #[]) (by simp [results, Try.results39]) rfl ⟨rfl, rfl⟩
theorem nil_Num {w : World} : Calls Try.prog 21 #[.pointer none] w fun x w' => x = .returned (.int .u64 0) ∧ Below w.heap.size w w' := by
  have K2 := Blk.new (w.alloc (.cells #[.pointer none] 42)) 26 #[.int .u64 0]
  rw [World.size_alloc] at K2
  have HB := Lib.hid (((Below.refl w.heap.size w).alloc (Nat.le_refl _) (.cells #[.pointer none] 42)).alloc (by simp) (.cells #[.int .u64 0] 26))
  obtain ⟨m0, n0, hz3⟩ := K2.c1
  clear K2
  go_enter Try.func21, Try.ntmps21
  go_wp2_with fail
  refine nil_reads.mono ?_
  rintro x w2 ⟨rfl, rfl⟩
  go_wp2_with fail
  refine bodyPost_ret (v := .int .u64 0) (by simp [results, Try.results21, go_sem, m0]) rfl ⟨rfl, ?_⟩
  first | exact HB.out | exact HB.out.setCell (p := ⟨w.heap.size + 1, 0, none⟩) (by simp) _
theorem nil_Upto {w : World} {most : Nat} : Calls Try.prog 33 #[.pointer none, .int .u64 most] w fun x w' => x = .returned (.int .u64 0) ∧ Below w.heap.size w w' := by
  go_enter Try.func33, Try.ntmps33
  go_wp2_with fail
  refine nil_Num.mono ?_
  rintro x w1 ⟨rfl, hX⟩
  have HX := Lib.hid hX
  clear hX
  go_wp2_with fail
  go_ret
  exact ⟨rfl, HX.out⟩
theorem nil_Int {w : World} : Calls Try.prog 23 #[.pointer none] w fun x w' => x = .returned (.int .i64 0) ∧ Below w.heap.size w w' := by
  go_enter Try.func23, Try.ntmps23
  go_wp2_with fail
  refine nil_Num.mono ?_
  rintro x w1 ⟨rfl, hX⟩
  have HX := Lib.hid hX
  clear hX
  go_wp2_with fail
  refine (num_Unfold (n := 0) (by decide)).mono ?_
  rintro x w2 ⟨rfl, rfl⟩
  go_wp2_with fail
  go_ret
  exact ⟨rfl, HX.out⟩
theorem nil_Bool {w : World} : Calls Try.prog 24 #[.pointer none] w fun x w' => x = .returned (.bool false) ∧ Below w.heap.size w w' := by
  go_enter Try.func24, Try.ntmps24
  go_wp2_with fail
  refine nil_Num.mono ?_
  rintro x w1 ⟨rfl, hX⟩
  have HX := Lib.hid hX
  clear hX
  go_wp2_with fail
  go_ret
  exact ⟨rfl, HX.out⟩
theorem nil_Count {w : World} {most : Nat} (h : most ≤ 9223372036854775807) : Calls Try.prog 30 #[.pointer none, .int .i64 most] w fun x w' => x = .returned (.int .i64 0) ∧ Below w.heap.size w w' := by
  go_enter Try.func30, Try.ntmps30
  go_wp2_with fail
  refine nil_Upto.mono ?_
  rintro x w1 ⟨rfl, hX⟩
  have HX := Lib.hid hX
  clear hX
  go_wp2_with fail
  go_ret
  exact ⟨rfl, HX.out⟩
theorem nil_Bytes {w : World} {most : Nat} (h : most ≤ 9223372036854775807) : Calls Try.prog 25 #[.pointer none, .int .i64 most] w fun x w' => x = .returned (.slice none 0 0) ∧ Below w.heap.size w w' := by
  have HB := Lib.hid (((Below.refl w.heap.size w).alloc (Nat.le_refl _) (.cells #[.pointer none] 42)).alloc (by simp) (.cells #[.slice none 0 0] 23))
  have k1 := (Blk.new w 42 #[.pointer none]).alloc (.cells #[.slice none 0 0] 23)
  have k2 := Blk.new (w.alloc (.cells #[.pointer none] 42)) 23 #[.slice none 0 0]
  rw [World.size_alloc] at k2
  have K1 := Lib.hid k1
  have K2 := Lib.hid k2
  clear k1 k2
  go_enter Try.func25, Try.ntmps25
  go_wp2_with fail
  refine (nil_Count h).mono ?_
  rintro x w1 ⟨rfl, hX⟩
  have hb3 := (Below.refl w1.heap.size w1).alloc (Nat.le_refl _) (.cells #[.int .i64 0] 3)
  have kR := (Blk.below K1.out hX).below hb3
  have kB := (Blk.below K2.out hX).below hb3
  obtain ⟨m0, n0, hz3⟩ := kR.c1
  obtain ⟨m1, n1, hz4⟩ := kB.c1
  have hBx := HB.out.trans (hX.mono HB.out.size)
  have HX := Lib.hid (hBx.trans (hb3.mono hBx.size))
  clear kR kB hX hb3 hBx K1 K2 HB
  go_wp2_with fail
  refine nil_reads.mono ?_
  rintro x w3 ⟨rfl, rfl⟩
  generalize w1.alloc (.cells #[.int .i64 0] 3) = W at *
  go_wp2_with fail
  refine bodyPost_ret (v := .slice none 0 0) (by simp [results, Try.results25, go_sem, m1]) rfl ⟨rfl, ?_⟩
  first | exact HX.out | exact HX.out.setCell (p := ⟨w.heap.size + 1, 0, none⟩) (by simp) _
theorem nil_Str {w : World} {most : Nat} (h : most ≤ 9223372036854775807) : Calls Try.prog 26 #[.pointer none, .int .i64 most] w fun x w' => x = .returned (.string ⟨#[]⟩) ∧ Below w.heap.size w w' := by
  have hs := fun (w : World) => run_convert_zero w 23 5 Try.underlying23 Try.underlying5 none 0 9 Try.underlying9
  go_enter Try.func26, Try.ntmps26
  go_wp2_with fail
  refine (nil_Bytes h).mono ?_
  rintro x w1 ⟨rfl, hX⟩
  have HX := Lib.hid hX
  clear hX
  go_wp2_with fail
  go_ret
  exact ⟨rfl, HX.out⟩
end Go.Proofs.Ytgmlgdfgooacbaa
