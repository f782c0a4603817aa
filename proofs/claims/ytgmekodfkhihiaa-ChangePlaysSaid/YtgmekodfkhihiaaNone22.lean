/-
  Change: a change that is none; a new one and a pack that are refused. (Printed by wip/gen_none22.py.)
-/
import Derived.Test.YtgmekodfkhihiaaWakes22
namespace Go.Proofs.Ytgmekodfkhihiaa
open Go.RowKit Go.Maps
set_option linter.unusedSimpArgs false
set_option linter.unusedVariables false

/-- Here and later this is no change. -/
def NoCh (w : World) (q : Option Addr) : Prop := ∀ W : World, Below w.heap.size w W → Calls Try.prog 28 #[.pointer q] W fun x w' => x = .returned (.bool true) ∧ W = w'
theorem NoCh.below {w w' : World} {q : Option Addr} (h : NoCh w q) (hb : Below w.heap.size w w') : NoCh w' q := fun W hW => h W (hb.trans (hW.mono hb.size))
theorem NoCh.nil (w : World) : NoCh w none := by
  intro W _
  go_enter Try.func28, Try.ntmps28
  go_wp2
  go_ret
  exact ⟨rfl, rfl⟩
def zcs : Array Value := (Value.int .i64 0 :: Value.int .i64 0 :: Value.int .u64 0 :: Value.pointer none :: zpcs).toArray
theorem NoCh.zero {w : World} {zb : Nat} (h : Blk w zb 75 zcs) : NoCh w (some ⟨zb, 0, none⟩) := by
  intro W hb
  have hB := h.below hb
  have a3 := (hB.cell 3).trans (show _ = some (Value.pointer none) from rfl)
  have hz := hB.lt
  clear h hB hb
  go_enter Try.func28, Try.ntmps28
  go_wp2
  go_ret
  exact ⟨rfl, rfl⟩
section
variable {w : World} {q : Option Addr}
theorem none_View (H : NoCh w q) : Calls Try.prog 24 #[.pointer q] w fun x w' => x = .returned (.int .u64 0) ∧ w = w' := by
  have HN := Lib.hid H
  clear H
  go_enter Try.func24, Try.ntmps24
  go_wp2_with fail
  refine (HN.out _ (Below.refl _ _)).mono ?_
  rintro x _ ⟨rfl, rfl⟩
  go_wp2_with fail
  go_ret
  exact ⟨rfl, rfl⟩
theorem none_Start (H : NoCh w q) {v : Int} : Calls Try.prog 9 #[.pointer q, .int .u64 v] w fun x w' => x = .returned (.int .i64 2) ∧ w = w' := by
  have HN := Lib.hid H
  clear H
  go_enter Try.func9, Try.ntmps9
  go_wp2_with fail
  refine (HN.out _ (Below.refl _ _)).mono ?_
  rintro x _ ⟨rfl, rfl⟩
  go_wp2_with fail
  go_ret
  exact ⟨rfl, rfl⟩
theorem none_Told (H : NoCh w q) {v k : Int} : Calls Try.prog 15 #[.pointer q, .int .u64 v, .int .i64 k] w fun x w' => x = .returned (.tuple #[.bool false, .int .i64 2]) ∧ w = w' := by
  have HN := Lib.hid H
  clear H
  go_enter Try.func15, Try.ntmps15
  go_wp2_with fail
  refine (HN.out _ (Below.refl _ _)).mono ?_
  rintro x _ ⟨rfl, rfl⟩
  go_wp2_with fail
  go_ret2
  exact ⟨rfl, rfl⟩
theorem none_Copy (H : NoCh w q) : Calls Try.prog 21 #[.pointer q] w fun x w' => x = .returned (.pointer none) ∧ w = w' := by
  have HN := Lib.hid H
  clear H
  go_enter Try.func21, Try.ntmps21
  go_wp2_with fail
  refine (HN.out _ (Below.refl _ _)).mono ?_
  rintro x _ ⟨rfl, rfl⟩
  go_wp2_with fail
  go_ret
  exact ⟨rfl, rfl⟩
theorem none_Hand (H : NoCh w q) {v k l b c : Int} {p : Option Addr} {m d : Nat} : Calls Try.prog 10 #[.pointer q, .int .u64 v, .int .i64 k, .agg #[.int .u64 l, .int .u64 b, .int .u64 c, .slice p m d]] w fun x w' => x = .returned (.tuple #[.bool false, .int .i64 2]) ∧ Below w.heap.size w w' := by
  have hX := (Below.refl w.heap.size w).alloc (Nat.le_refl _) (.cells #[.int .u64 l, .int .u64 b, .int .u64 c, .slice p m d] 35)
  have HN := Lib.hid (H.below hX)
  have HX := Lib.hid hX
  clear H hX
  go_enter Try.func10, Try.ntmps10
  go_wp2_with fail
  generalize w.alloc (.cells #[.int .u64 l, .int .u64 b, .int .u64 c, .slice p m d] 35) = W at *
  refine (HN.out _ (Below.refl _ _)).mono ?_
  rintro x _ ⟨rfl, rfl⟩
  go_wp2_with fail
  go_ret2
  exact ⟨rfl, HX.out⟩
theorem none_Best (H : NoCh w q) :
    Calls Try.prog 11 #[.pointer q] w fun x w' => x = .returned (.tuple #[.agg #[.int .u64 0, .int .u64 0, .int .u64 0, .slice none 0 0], .bool false]) ∧ Below w.heap.size w w' := by
  have hX := (Below.refl w.heap.size w).alloc (Nat.le_refl _) (.cells #[.int .u64 0, .int .u64 0, .int .u64 0, .slice none 0 0] 35)
  have kR := Blk.new w 35 #[.int .u64 0, .int .u64 0, .int .u64 0, .slice none 0 0]
  have HN := Lib.hid (H.below hX)
  have HX := Lib.hid hX
  have KR := Lib.hid kR
  clear H hX kR
  go_enter Try.func11, Try.ntmps11
  go_wp2_with fail
  generalize w.alloc (.cells #[.int .u64 0, .int .u64 0, .int .u64 0, .slice none 0 0] 35) = W at *
  refine (HN.out _ (Below.refl _ _)).mono ?_
  rintro x _ ⟨rfl, rfl⟩
  obtain ⟨r0, r1, r2, r3, f0, f1, f2, f3, hz0⟩ := KR.out.c4
  go_wp2_with fail
  refine bodyPost_ret (v := .tuple #[.agg #[.int .u64 0, .int .u64 0, .int .u64 0, .slice none 0 0], .bool false]) (by simp [results, Try.results11, go_sem, r0, r1, r2, r3]) rfl ?_
  exact ⟨rfl, Below.sets4 HX.out (Nat.le_refl _)⟩
end
/-- What New refuses. -/
theorem ch_New_arg {w : World} {n me : Int} (h : n < 1 ∨ 7 < n ∨ n % 2 = 0 ∨ me < 0 ∨ n ≤ me) :
    Calls Try.prog 8 #[.int .i64 n, .int .i64 me] w fun x w' => x = .returned (.tuple #[.pointer none, .int .i64 1]) ∧ Below w.heap.size w w' := by
  by_cases h1 : n < 1 ∨ 7 < n
  · go_enter Try.func8, Try.ntmps8
    go_wp2_with fail
    refine (votes_New_arg h1).mono ?_
    rintro x w1 ⟨rfl, rfl⟩
    go_wp2_with fail
    go_ret2
    exact ⟨rfl, Below.refl _ _⟩
  · have h01 : 1 ≤ n := by omega
    have h07 : n ≤ 7 := by omega
    by_cases h2 : n % 2 = 0
    · have d3 : decide (n % 2 = 0) = true := by simpa using h2
      have d4 : (n % 2 == 0) = true := by simpa using h2
      clear h h1 h2
      go_enter Try.func8, Try.ntmps8
      go_wp2_with fail
      refine (votes_New (v := 0) h01 h07 (by decide)).mono ?_
      rintro x w1 ⟨rfl, hV, hb⟩
      have HB := Lib.hid hb
      clear hV hb
      go_wp2_with fail
      go_ret2
      exact ⟨rfl, HB.out⟩
    · have d3 : decide (n % 2 = 0) = false := by simpa using h2
      have d4 : (n % 2 == 0) = false := by simpa using h2
      by_cases h3 : me < 0
      · have d1 : decide (me < 0) = true := by simpa using h3
        clear h h1 h2
        go_enter Try.func8, Try.ntmps8
        go_wp2_with fail
        refine (votes_New (v := 0) h01 h07 (by decide)).mono ?_
        rintro x w1 ⟨rfl, hV, hb⟩
        have HB := Lib.hid hb
        clear hV hb
        go_wp2_with fail
        go_ret2
        exact ⟨rfl, HB.out⟩
      · have d1 : decide (me < 0) = false := by simpa using h3
        have d2 : decide (n ≤ me) = true := by simp; omega
        clear h h1 h2
        go_enter Try.func8, Try.ntmps8
        go_wp2_with fail
        refine (votes_New (v := 0) h01 h07 (by decide)).mono ?_
        rintro x w1 ⟨rfl, hV, hb⟩
        have HB := Lib.hid hb
        clear hV hb
        go_wp2_with fail
        go_ret2
        exact ⟨rfl, HB.out⟩
section
variable {w : World} {S : Nat → Prop} {cb vb g : Nat} {n me v : Int} {t h : List Bool} {ps : List Pk}
/-- A node that is none. -/
theorem ch_Hand_from (H : ChAt w S cb vb g n me v t h ps) {l b c vn k : Int} {p : Option Addr} {m d : Nat} (hk : k < 0 ∨ n ≤ k) :
    Calls Try.prog 10 #[.pointer (some ⟨cb, 0, none⟩), .int .u64 vn, .int .i64 k, .agg #[.int .u64 l, .int .u64 b, .int .u64 c, .slice p m d]] w fun x w' => x = .returned (.tuple #[.bool false, .int .i64 1]) ∧ Below w.heap.size w w' := by
  have hX := (Below.refl w.heap.size w).alloc (Nat.le_refl _) (.cells #[.int .u64 l, .int .u64 b, .int .u64 c, .slice p m d] 35)
  have HH := Lib.hid (H.below hX)
  have HX := Lib.hid hX
  obtain ⟨a0, a1, a2, a3, -, hz⟩ := HH.out.cells
  clear H hX
  by_cases h0 : k < 0
  · have d1 : decide (k < 0) = true := by simpa using h0
    go_enter Try.func10, Try.ntmps10
    go_wp2_with fail
    generalize w.alloc (.cells #[.int .u64 l, .int .u64 b, .int .u64 c, .slice p m d] 35) = W at *
    refine (ch_none HH.out).mono ?_
    rintro x _ ⟨rfl, rfl⟩
    go_wp2_with fail
    go_ret2
    exact ⟨rfl, HX.out⟩
  · have d1 : decide (k < 0) = false := by simpa using h0
    have d2 : decide (n ≤ k) = true := by simp; omega
    go_enter Try.func10, Try.ntmps10
    go_wp2_with fail
    generalize w.alloc (.cells #[.int .u64 l, .int .u64 b, .int .u64 c, .slice p m d] 35) = W at *
    refine (ch_none HH.out).mono ?_
    rintro x _ ⟨rfl, rfl⟩
    go_wp2_with fail
    go_ret2
    exact ⟨rfl, HX.out⟩
/-- A pack that may not be. -/
theorem ch_Hand_may {T : Nat → Prop} {l b c : Int} {s : Value} {es : List Ent} {k vn : Int} (H : ChAt w S cb vb g n me v t h ps) (h0 : 0 ≤ k) (h1 : k < n) (hs : EntsRd w T s es) (hm : mayB l b c es = false) (hb0 : 0 ≤ b) (hn64 : es.length ≤ 1152921504606846976) :
    Calls Try.prog 10 #[.pointer (some ⟨cb, 0, none⟩), .int .u64 vn, .int .i64 k, .agg #[.int .u64 l, .int .u64 b, .int .u64 c, s]] w fun x w' => x = .returned (.tuple #[.bool false, .int .i64 1]) ∧ Below w.heap.size w w' := by
  obtain ⟨cs, hr, -⟩ := id hs
  obtain ⟨p0, c0, rfl⟩ := Rd.slice hr
  have hX := (Below.refl w.heap.size w).alloc (Nat.le_refl _) (.cells #[.int .u64 l, .int .u64 b, .int .u64 c, .slice p0 es.length c0] 35)
  have kM := Blk.new w 35 #[.int .u64 l, .int .u64 b, .int .u64 c, .slice p0 es.length c0]
  have d1 : decide (k < 0) = false := by simpa using h0
  have d2 : decide (n ≤ k) = false := by simpa using h1
  have HH := Lib.hid (H.below hX)
  have HX := Lib.hid hX
  have Hs := Lib.hid (hs.below hX)
  have Hm := Lib.hid hm
  obtain ⟨a0, a1, a2, a3, -, hz⟩ := HH.out.cells
  obtain ⟨q0, q1, q2, q3, -⟩ := kM.c4
  have hz0 := kM.lt
  clear H hr hs hX kM hm
  go_enter Try.func10, Try.ntmps10
  go_wp2_with fail
  generalize w.alloc (.cells #[.int .u64 l, .int .u64 b, .int .u64 c, .slice p0 es.length c0] 35) = W at *
  refine (ch_none HH.out).mono ?_
  rintro x _ ⟨rfl, rfl⟩
  go_wp2_with fail
  refine (pack_May (a := l) (b := b) (c := c) Hs.out hn64 hb0).mono ?_
  rintro x w1 ⟨rfl, hb⟩
  rw [Hm.out]
  have HX1 := Lib.hid (HX.out.trans (hb.mono HX.out.size))
  clear hb HX
  go_wp2_with fail
  go_ret2
  exact ⟨rfl, HX1.out⟩
end
end Go.Proofs.Ytgmekodfkhihiaa
