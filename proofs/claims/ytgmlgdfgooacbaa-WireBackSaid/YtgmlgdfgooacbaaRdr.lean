/-
  The Reader: what it is in memory; New, Err, Fail, Left, reads, Num: contracts.
-/
import Derived.Test.YtgmlgdfgooacbaaGet
import Derived.Test.YtgmlgdfgooacbaaFold
import Derived.Test.YtgmlgdfgooacbaaOrd
import Derived.Deep.RegionLaw
import Derived.BigQuiet
namespace Go.Proofs.Ytgmlgdfgooacbaa
open Go.RowKit
set_option linter.unusedSimpArgs false
set_option linter.unusedVariables false

theorem enter_f (f : FuncId) (h : (Try.prog.funcs[f]?).any (fun fn => fn.name != "runtime.NumGoroutine" && fn.body.isSome) = true) (args : Array Value) (w : World) :
    (callFunc f args).run Try.prog w = .ok (.enter f args) w := by
  unfold callFunc
  cases hf : Try.prog.funcs[f]? with
  | none => rw [hf] at h; simp at h
  | some fn =>
    rw [hf] at h
    simp only [Option.any_some, Bool.and_eq_true, bne_iff_ne, ne_eq] at h
    obtain ⟨h1, h2⟩ := h
    cases hb : fn.body with
    | none => rw [hb] at h2; cases h2
    | some c => simp [program, Sem.run, hf, h1, hb]

/-- What a reader holds: the bytes that are left, the first error. -/
structure RS where
  b : List UInt8
  e : Int

def rdFail (s : RS) (x : Int) : RS := if s.e = 0 then ⟨s.b, x⟩ else s
def rdLeft (s : RS) : Nat := if s.e = 0 then s.b.length else 0
/-- A number read: the number, the reader behind it. -/
def rdNum (s : RS) : Nat × RS :=
  if s.e = 0 then
    if (numGet s.b).2.2 = 0 then ((numGet s.b).1, ⟨s.b.drop (numGet s.b).2.1, 0⟩) else (0, ⟨s.b, (numGet s.b).2.2⟩)
  else (0, s)

/-- The reader of block a, its bytes in blocks from lo on, ahead of a. -/
def RdAt (w : World) (lo a : Nat) (s : RS) : Prop := ∃ v, Blk w a 61 #[v, .int .i64 s.e, .bool true] ∧ CmdRd w (fun k => lo ≤ k ∧ k < a) v s.b
section
variable {w w' : World} {lo lo' a : Nat} {s : RS}
theorem RdAt.ext {M : Nat → Prop} (h : RdAt w lo a s) (hX : Ext M w w') (hM : ∀ k, lo ≤ k → k ≤ a → ¬ M k) (hle : lo ≤ a) : RdAt w' lo a s := by
  obtain ⟨v, hB, hR⟩ := h
  exact ⟨v, hB.ext hX (hM a hle (Nat.le_refl _)), Rd.ext hR hX (fun k hk => hM k hk.1 (Nat.le_of_lt hk.2)) (by decide)⟩
theorem RdAt.below (h : RdAt w lo a s) (hX : Below w.heap.size w w') : RdAt w' lo a s := by
  obtain ⟨v, hB, hR⟩ := h
  exact ⟨v, hB.below hX, hR.below hX⟩
theorem RdAt.lt (h : RdAt w lo a s) : a < w.heap.size := by
  obtain ⟨v, hB, hR⟩ := h
  exact hB.lt
theorem RdAt.len (h : RdAt w lo a s) : s.b.length ≤ maxLen := by
  obtain ⟨v, hB, hR⟩ := h
  exact Rd.le hR
/-- Another cell of another block is stored. -/
theorem RdAt.far (h : RdAt w lo a s) {g i : Nat} (hg : ¬ (lo ≤ g ∧ g ≤ a)) (hle : lo ≤ a) (u : Value) : RdAt (w.setCell ⟨g, i, none⟩ u) lo a s :=
  h.ext (M := fun k => k = g) ((Ext.refl _ _).set1 rfl) (fun k h1 h2 e => hg (by subst e; exact ⟨h1, h2⟩)) hle
end

set_option maxHeartbeats 800000 in
theorem rd_New {w : World} {S : Nat → Prop} {v : Value} {bs : List UInt8} (h : CmdRd w S v bs) (hb : bs.length ≤ 200000000000000) :
    Calls Try.prog 20 #[v] w fun e w' => ∃ a, e = .returned (.pointer (some ⟨a, 0, none⟩)) ∧ RdAt w' w.heap.size a ⟨bs, 0⟩ ∧ w.heap.size ≤ a ∧ a < w'.heap.size ∧ Below w.heap.size w w' := by
  have H := Lib.hid h
  obtain ⟨p0, c0, rfl⟩ := h.slice
  clear h
  go_enter Try.func20, Try.ntmps20
  go_wp2_with fail
  refine (bytes_Clone H.out (bcells_one _) hb).mono ?_
  rintro x w1 ⟨p, c, rfl, ho, hX⟩
  have Ho := Lib.hid (show CmdOwn w1 w.heap.size (.slice p bs.length c) bs from ho)
  have HX := Lib.hid hX
  clear ho hX
  go_wp2_with fail
  go_ret
  refine ⟨w1.heap.size, rfl, ⟨_, Blk.new _ _ _, ?_⟩, HX.out.size, by simp, HX.out.alloc HX.out.size _⟩
  exact Rd.alloc Ho.out.rd (by decide) _

theorem rd_Err {w : World} {lo a : Nat} {s : RS} (h : RdAt w lo a s) :
    Calls Try.prog 22 #[.pointer (some ⟨a, 0, none⟩)] w fun e w' => e = .returned (.int .i64 s.e) ∧ w = w' := by
  obtain ⟨v, hB, hR⟩ := h
  obtain ⟨a0, a1, a2, f0, f1, f2, hz⟩ := hB.c3
  clear hB hR
  go_enter Try.func22, Try.ntmps22
  go_wp2
  go_ret
  exact ⟨rfl, rfl⟩

set_option maxHeartbeats 800000 in
theorem rd_Fail {w : World} {lo a : Nat} {s : RS} {x : Int} (h : RdAt w lo a s) (hle : lo ≤ a) :
    Calls Try.prog 32 #[.pointer (some ⟨a, 0, none⟩), .int .i64 x] w fun e w' => e = .returned (.tuple #[]) ∧ RdAt w' lo a (rdFail s x) ∧ Ext (· = a) w w' := by
  have H := Lib.hid h
  obtain ⟨b, er⟩ := s
  obtain ⟨v, hB, hR⟩ := h
  obtain ⟨a0, a1, a2, f0, f1, f2, hz⟩ := hB.c3
  have HB := Lib.hid hB
  have HR := Lib.hid hR
  clear hB hR
  by_cases he : er = 0
  · subst he
    go_enter Try.func32, Try.ntmps32
    go_wp2_with fail
    refine (rd_Err H.out).mono ?_
    rintro e w' ⟨rfl, rfl⟩
    go_wp2_with fail
    refine bodyPost_end (results_none rfl _ _ _) rfl ⟨rfl, ⟨v, by simpa [rdFail] using HB.out.set_ 1 (.int .i64 x), ?_⟩, (Ext.refl _ _).set1 rfl⟩
    exact Rd.setCell (a := ⟨a, 1, none⟩) HR.out (by decide) (fun k hk _ e => by have : k = a := e; omega) _
  · have t1 : (er == 0) = false := by simpa using he
    have e1 : rdFail ⟨b, er⟩ x = ⟨b, er⟩ := by simp [rdFail, he]
    rw [e1]
    clear e1
    have HE := Lib.hid he
    clear he
    go_enter Try.func32, Try.ntmps32
    go_wp2_with fail
    refine (rd_Err H.out).mono ?_
    rintro e w' ⟨rfl, rfl⟩
    go_wp2_with fail
    exact bodyPost_end (results_none rfl _ _ _) rfl ⟨rfl, H.out, Ext.refl _ _⟩

theorem rd_Left {w : World} {lo a : Nat} {s : RS} (h : RdAt w lo a s) :
    Calls Try.prog 28 #[.pointer (some ⟨a, 0, none⟩)] w fun e w' => e = .returned (.int .i64 (rdLeft s)) ∧ w = w' := by
  have H := Lib.hid h
  obtain ⟨b, er⟩ := s
  obtain ⟨v, hB, hR⟩ := h
  obtain ⟨p, c, rfl⟩ := hR.slice
  obtain ⟨a0, a1, a2, f0, f1, f2, hz⟩ := hB.c3
  clear hB hR
  by_cases he : er = 0
  · subst he
    go_enter Try.func28, Try.ntmps28
    go_wp2_with fail
    refine (rd_Err H.out).mono ?_
    rintro e w' ⟨rfl, rfl⟩
    go_wp2_with fail
    go_ret
    exact ⟨by simp [rdLeft], rfl⟩
  · have t1 : (er != 0) = true := by simpa using he
    have e1 : ((rdLeft ⟨b, er⟩ : Nat) : Int) = 0 := by simp [rdLeft, he]
    rw [e1]
    clear e1 he
    go_enter Try.func28, Try.ntmps28
    go_wp2_with fail
    refine (rd_Err H.out).mono ?_
    rintro e w' ⟨rfl, rfl⟩
    go_wp2_with fail
    go_ret
    exact ⟨rfl, rfl⟩

set_option maxHeartbeats 1600000 in
/-- Something is read: k bytes. -/
theorem reads_ok {w : World} {lo a k : Nat} {bs : List UInt8} {f : FuncId} {cap : Array Value} {R : World → Prop} (h : RdAt w lo a ⟨bs, 0⟩) (hle : lo ≤ a) (hk : k ≤ bs.length) (hf : ∀ args w, (callFunc f args).run Try.prog w = .ok (.enter f args) w)
    (hcall : Calls Try.prog f cap w fun x w1 => x = .returned (.tuple #[.int .i64 k, .int .i64 0]) ∧ RdAt w1 lo a ⟨bs, 0⟩ ∧ R w1) :
    Calls Try.prog 39 #[.pointer (some ⟨a, 0, none⟩), .func (.func f) #[] cap] w fun x w' => x = .returned (.tuple #[]) ∧ ∃ w1, R w1 ∧ Ext (· = a) w1 w' ∧ RdAt w' lo a ⟨bs.drop k, 0⟩ := by
  have H := Lib.hid h
  have Hc := Lib.hid hcall
  have hlen := h.len
  unfold maxLen at hlen
  clear h hcall
  go_enter Try.func39, Try.ntmps39
  go_wp2_with fail
  refine (rd_Err H.out).mono ?_
  rintro e w' ⟨rfl, rfl⟩
  go_wp2_with fail
  refine Hc.out.mono ?_
  rintro e w1 ⟨rfl, hR, hW⟩
  have H1 := Lib.hid hR
  have HW := Lib.hid hW
  clear hR hW H Hc
  go_wp2_with fail
  refine (rd_Fail (x := 0) H1.out hle).mono ?_
  rintro e w2 ⟨rfl, hF, hX⟩
  obtain ⟨v, hB, hR⟩ : ∃ v, Blk w2 a 61 #[v, .int .i64 0, .bool true] ∧ CmdRd w2 (fun k => lo ≤ k ∧ k < a) v bs := hF
  obtain ⟨p, c, rfl⟩ := hR.slice
  obtain ⟨a0, a1, a2, f0, f1, f2, hz⟩ := hB.c3
  have hcb : bs.length ≤ c := by obtain ⟨_, _, _, h, h1, _⟩ := hR; injection h with _ _ h; omega
  have hcm : c ≤ maxLen := by obtain ⟨_, _, _, h, _, h1, _⟩ := hR; injection h with _ _ h; omega
  unfold maxLen at hcm
  have HB := Lib.hid hB
  have hcut := CmdRd.cut hR hk
  have HX := Lib.hid hX
  clear hB hR hX H1
  by_cases hck : c = k
  · subst hck
    rw [if_pos rfl] at hcut
    have HC := Lib.hid hcut
    clear hcut
    go_wp2_with fail
    refine bodyPost_end (results_none rfl _ _ _) rfl ⟨rfl, w1, HW.out, HX.out.set1 rfl, ⟨_, by simpa using HB.out.set_ 0 (.slice p 0 0), ?_⟩⟩
    have h := HC.out
    rw [Nat.sub_self, show bs.length - c = 0 from by omega] at h
    exact Rd.setCell (a := ⟨a, 0, none⟩) h (by decide) (fun k hk _ e => by have : k = a := e; omega) _
  · rw [if_neg hck] at hcut
    have HC := Lib.hid hcut
    clear hcut
    go_wp2_with fail
    refine bodyPost_end (results_none rfl _ _ _) rfl ⟨rfl, w1, HW.out, HX.out.set1 rfl, ⟨_, by simpa using HB.out.set_ 0 _, ?_⟩⟩
    have h := HC.out
    simp only [Nat.mul_one] at h
    exact Rd.setCell (a := ⟨a, 0, none⟩) h (by decide) (fun k hk _ e => by have : k = a := e; omega) _

set_option maxHeartbeats 1600000 in
/-- What was tried fails. -/
theorem reads_err {w : World} {lo a : Nat} {k er : Int} {bs : List UInt8} {f : FuncId} {cap : Array Value} {R : World → Prop} (h : RdAt w lo a ⟨bs, 0⟩) (hle : lo ≤ a) (her : er ≠ 0) (hf : ∀ args w, (callFunc f args).run Try.prog w = .ok (.enter f args) w)
    (hcall : Calls Try.prog f cap w fun x w1 => x = .returned (.tuple #[.int .i64 k, .int .i64 er]) ∧ RdAt w1 lo a ⟨bs, 0⟩ ∧ R w1) :
    Calls Try.prog 39 #[.pointer (some ⟨a, 0, none⟩), .func (.func f) #[] cap] w fun x w' => x = .returned (.tuple #[]) ∧ ∃ w1, R w1 ∧ Ext (· = a) w1 w' ∧ RdAt w' lo a ⟨bs, er⟩ := by
  have H := Lib.hid h
  have Hc := Lib.hid hcall
  have t1 : (er == 0) = false := by simpa using her
  clear h hcall her
  go_enter Try.func39, Try.ntmps39
  go_wp2_with fail
  refine (rd_Err H.out).mono ?_
  rintro e w' ⟨rfl, rfl⟩
  go_wp2_with fail
  refine Hc.out.mono ?_
  rintro e w1 ⟨rfl, hR, hW⟩
  have H1 := Lib.hid hR
  have HW := Lib.hid hW
  clear hR hW H Hc
  go_wp2_with fail
  refine (rd_Fail (x := er) H1.out hle).mono ?_
  rintro e w2 ⟨rfl, hF, hX⟩
  have HF := Lib.hid (show RdAt w2 lo a ⟨bs, er⟩ from hF)
  have HX := Lib.hid hX
  clear hF hX H1
  go_wp2_with fail
  exact bodyPost_end (results_none rfl _ _ _) rfl ⟨rfl, w1, HW.out, HX.out, HF.out⟩

/-- Behind an error nothing is read. -/
theorem reads_no {w : World} {lo a : Nat} {s : RS} {d : Value} (h : RdAt w lo a s) (her : s.e ≠ 0) :
    Calls Try.prog 39 #[.pointer (some ⟨a, 0, none⟩), d] w fun x w' => x = .returned (.tuple #[]) ∧ w = w' := by
  obtain ⟨b, er⟩ := s
  have H := Lib.hid h
  have t1 : (er != 0) = true := by simpa using her
  clear h her
  go_enter Try.func39, Try.ntmps39
  go_wp2_with fail
  refine (rd_Err H.out).mono ?_
  rintro e w' ⟨rfl, rfl⟩
  go_wp2_with fail
  exact bodyPost_ret (v := .tuple #[]) (by simp [results, Try.results39]) rfl ⟨rfl, rfl⟩

set_option maxHeartbeats 1600000 in
theorem num_1 {w : World} {lo a g1 g2 : Nat} {z : Value} {s : RS} (h : RdAt w lo a s) (k1 : Blk w g1 42 #[.pointer (some ⟨a, 0, none⟩)]) (k2 : Blk w g2 26 #[z]) :
    Calls Try.prog 40 #[.pointer (some ⟨g1, 0, none⟩), .pointer (some ⟨g2, 0, none⟩)] w fun x w' =>
      x = .returned (.tuple #[.int .i64 (numGet s.b).2.1, .int .i64 (numGet s.b).2.2]) ∧ w' = w.setCell ⟨g2, 0, none⟩ (.int .u64 (numGet s.b).1) := by
  obtain ⟨b, er⟩ := s
  obtain ⟨v, hB, hR⟩ := h
  obtain ⟨p, c, rfl⟩ := hR.slice
  obtain ⟨a0, a1, a2, f0, f1, f2, hz⟩ := hB.c3
  obtain ⟨b0, g0, hz1⟩ := k1.c1
  obtain ⟨c0, d0, hz2⟩ := k2.c1
  have HR := Lib.hid hR
  clear hB hR k1 k2
  go_enter Try.func40, Try.ntmps40
  go_wp2_with fail
  refine (num_Get HR.out).mono ?_
  rintro e w1 ⟨rfl, rfl⟩
  unfold getRes
  go_wp2_with fail
  go_ret2
  exact ⟨rfl, rfl⟩

theorem getFrom_ok : ∀ (l : List UInt8) (i acc : Nat), (getFrom i acc l).2.2 = 0 → i < (getFrom i acc l).2.1 ∧ (getFrom i acc l).2.1 ≤ i + l.length
  | [], i, acc, h => by simp only [getFrom] at h; split at h <;> cases h
  | b :: r, i, acc, h => by
    simp only [getFrom] at h ⊢
    split
    · rename_i h1; rw [if_pos h1] at h; cases h
    · rename_i h1
      rw [if_neg h1] at h
      split
      · rename_i h2
        rw [if_pos h2] at h
        have := getFrom_ok r (i + 1) _ h
        simp only [List.length_cons]
        omega
      · rename_i h2
        rw [if_neg h2] at h
        split
        · rename_i h3; rw [if_pos h3] at h; cases h
        · simp only [List.length_cons]; omega
theorem getFrom_err : ∀ (l : List UInt8) (i acc : Nat), (getFrom i acc l).2.2 ≠ 0 → (getFrom i acc l).1 = 0
  | [], i, acc, h => rfl
  | b :: r, i, acc, h => by
    simp only [getFrom] at h ⊢
    split
    · rfl
    · rename_i h1
      rw [if_neg h1] at h
      split
      · rename_i h2
        rw [if_pos h2] at h
        exact getFrom_err r (i + 1) _ h
      · rename_i h2
        rw [if_neg h2] at h
        split
        · rfl
        · rename_i h3; rw [if_neg h3] at h; exact absurd rfl h
theorem numGet_ok {l : List UInt8} (h : (numGet l).2.2 = 0) : 0 < (numGet l).2.1 ∧ (numGet l).2.1 ≤ l.length := by
  have := getFrom_ok l 0 0 h
  unfold numGet
  omega

set_option maxHeartbeats 1600000 in
theorem rd_Num {w : World} {lo a : Nat} {s : RS} (h : RdAt w lo a s) (hle : lo ≤ a) :
    Calls Try.prog 21 #[.pointer (some ⟨a, 0, none⟩)] w fun x w' => x = .returned (.int .u64 (rdNum s).1) ∧ RdAt w' lo a (rdNum s).2 ∧ Ext (· = a) w w' := by
  have hz := h.lt
  have hb1 := (Below.refl w.heap.size w).alloc (Nat.le_refl _) (.cells #[.pointer (some ⟨a, 0, none⟩)] 42)
  have hb2 := hb1.alloc (by simp) (.cells #[.int .u64 0] 26)
  have H := Lib.hid (h.below hb2)
  have k1 := (Blk.new w 42 #[.pointer (some ⟨a, 0, none⟩)]).alloc (.cells #[.int .u64 0] 26)
  have k2 := Blk.new (w.alloc (.cells #[.pointer (some ⟨a, 0, none⟩)] 42)) 26 #[.int .u64 0]
  rw [World.size_alloc] at k2
  have HB := Lib.hid hb2
  have K1 := Lib.hid k1
  have K2 := Lib.hid k2
  clear h hb1 hb2 k1 k2
  by_cases he : s.e = 0
  · obtain ⟨bs, er⟩ := s
    obtain rfl : er = 0 := he
    by_cases hg : (numGet bs).2.2 = 0
    · have hk := (numGet_ok hg).2
      have e1 : rdNum ⟨bs, 0⟩ = ((numGet bs).1, ⟨bs.drop (numGet bs).2.1, 0⟩) := by simp [rdNum, hg]
      rw [e1]
      clear e1
      have Hg := Lib.hid hg
      clear hg
      go_enter Try.func21, Try.ntmps21
      go_wp2_with fail
      refine (reads_ok (R := fun w1 => Blk w1 (w.heap.size + 1) 26 #[.int .u64 (numGet bs).1] ∧ Below w.heap.size w w1) H.out hle hk (enter_f 40 (by kernel_rfl)) ?_).mono ?_
      · refine (num_1 H.out K1.out K2.out).mono ?_
        rintro x w1 ⟨rfl, rfl⟩
        have hg := Hg.out
        refine ⟨by simp only [hg]; rfl, H.out.far (by omega) hle _, by simpa using K2.out.set_ 0 _, HB.out.setCell (by simp) _⟩
      · rintro x w2 ⟨rfl, w1, ⟨hk2, hbb⟩, hX, hr⟩
        have k3 := Blk.ext hk2 hX (by omega)
        obtain ⟨m0, n0, hz3⟩ := k3.c1
        have K3 := Lib.hid k3
        have HR := Lib.hid hr
        have HX := Lib.hid ((Ext.of_below (fun x => x = a) hbb).trans hX)
        clear k3 hr hX hk2 hbb
        go_wp2_with fail
        refine bodyPost_ret (v := .int .u64 (numGet bs).1) (by simp [results, Try.results21, go_sem, m0]) rfl ⟨rfl, ?_, ?_⟩
        · exact HR.out.far (by omega) hle _
        · exact HX.out.setCell (p := ⟨w.heap.size + 1, 0, none⟩) (.inr (by simp)) _
    · have e1 : rdNum ⟨bs, 0⟩ = (0, ⟨bs, (numGet bs).2.2⟩) := by simp [rdNum, hg]
      have e2 : (numGet bs).1 = 0 := getFrom_err bs 0 0 hg
      rw [e1]
      clear e1
      have He2 := Lib.hid e2
      clear e2
      have her : (((numGet bs).2.2 : Nat) : Int) ≠ 0 := by omega
      have Hg := Lib.hid her
      clear hg her
      go_enter Try.func21, Try.ntmps21
      go_wp2_with fail
      refine (reads_err (k := (numGet bs).2.1) (R := fun w1 => Blk w1 (w.heap.size + 1) 26 #[.int .u64 0] ∧ Below w.heap.size w w1) H.out hle Hg.out (enter_f 40 (by kernel_rfl)) ?_).mono ?_
      · refine (num_1 H.out K1.out K2.out).mono ?_
        rintro x w1 ⟨rfl, rfl⟩
        refine ⟨rfl, H.out.far (by omega) hle _, ?_, HB.out.setCell (by simp) _⟩
        have h := K2.out.set_ 0 (.int .u64 (numGet bs).1)
        rw [He2.out] at h ⊢
        simpa using h
      · rintro x w2 ⟨rfl, w1, ⟨hk2, hbb⟩, hX, hr⟩
        have k3 := Blk.ext hk2 hX (by omega)
        obtain ⟨m0, n0, hz3⟩ := k3.c1
        have K3 := Lib.hid k3
        have HR := Lib.hid hr
        have HX := Lib.hid ((Ext.of_below (fun x => x = a) hbb).trans hX)
        clear k3 hr hX hk2 hbb
        go_wp2_with fail
        refine bodyPost_ret (v := .int .u64 0) (by simp [results, Try.results21, go_sem, m0]) rfl ⟨rfl, ?_, ?_⟩
        · exact HR.out.far (by omega) hle _
        · exact HX.out.setCell (p := ⟨w.heap.size + 1, 0, none⟩) (.inr (by simp)) _
  · have e1 : rdNum s = (0, s) := by simp [rdNum, he]
    rw [e1]
    clear e1
    have He := Lib.hid he
    clear he
    go_enter Try.func21, Try.ntmps21
    go_wp2_with fail
    refine (reads_no H.out He.out).mono ?_
    rintro x w2 ⟨rfl, rfl⟩
    obtain ⟨m0, n0, hz3⟩ := K2.out.c1
    go_wp2_with fail
    refine bodyPost_ret (v := .int .u64 0) (by simp [results, Try.results21, go_sem, m0]) rfl ⟨rfl, ?_, ?_⟩
    · first | exact H.out | exact H.out.far (by omega) hle _
    · first | exact Ext.of_below (fun x => x = a) HB.out | exact (Ext.of_below (fun x => x = a) HB.out).setCell (p := ⟨w.heap.size + 1, 0, none⟩) (.inr (by simp)) _
end Go.Proofs.Ytgmlgdfgooacbaa
