/-
  cmd.mayCmd, cmd.PutCmd, cmd.SameCmd: their contracts.
-/
import Derived.Test.YtciojggkcmdjiaaDoorCmd15
namespace Go.Proofs.YtciojggkcmdjiaaDoor
open Go.RowKit
set_option linter.unusedSimpArgs false
set_option linter.unusedVariables false

structure Cm where
  kind : Int
  doc : Int
  name : List UInt8
  rev : Int
  pos : Int
  us : List Ut
def cmCells (m : Cm) (v : Value) : Array Value := #[.int .i64 m.kind, .int .u32 m.doc, .string ⟨m.name.toArray⟩, .int .u64 m.rev, .int .i64 m.pos, v]
def mayCm (m : Cm) : Bool := decide (1 ≤ m.kind) && (decide (m.kind ≤ 9) && (decide (m.name.length ≤ 64) && (decide (decB m.name = 0) && (decide (m.rev ≤ 1099511627776) && (farB m.pos && rowB m.us)))))
theorem Blk.c6 {w : World} {g : Nat} {t : TypeId} {a b c d e f : Value} (h : Blk w g t #[a, b, c, d, e, f]) : w.cell? ⟨g, 0, none⟩ = some a ∧ w.cell? ⟨g, 1, none⟩ = some b ∧ w.cell? ⟨g, 2, none⟩ = some c ∧ w.cell? ⟨g, 3, none⟩ = some d ∧ w.cell? ⟨g, 4, none⟩ = some e ∧ w.cell? ⟨g, 5, none⟩ = some f ∧ (∀ i, w.frozen? ⟨g, i, none⟩ = false) ∧ g < w.heap.size :=
  ⟨h.cell 0, h.cell 1, h.cell 2, h.cell 3, h.cell 4, h.cell 5, fun i => h.frozen i, h.lt⟩
set_option maxHeartbeats 6400000 in
set_option maxRecDepth 100000 in
theorem cmd_mayCmd {w : World} {S : Nat → Prop} {p : Option Addr} {c : Nat} {kind doc rev pos : Int} {name : List UInt8} {us : List Ut} (hF : Forms w) (h : UtsRd w S (.slice p us.length c) us) (hl : us.length ≤ 1000000) (hn : name.length ≤ 1000000) :
    Calls Tryd.prog 18 #[.agg #[.int .i64 kind, .int .u32 doc, .string ⟨name.toArray⟩, .int .u64 rev, .int .i64 pos, .slice p us.length c]] w fun x w' => x = .returned (.bool (mayCm ⟨kind, doc, name, rev, pos, us⟩)) ∧ Below w.heap.size w w' := by
  obtain ⟨r, hr⟩ : ∃ x, mayCm ⟨kind, doc, name, rev, pos, us⟩ = x := ⟨_, rfl⟩
  rw [hr]
  have Hr := Lib.hid (show r = (decide (1 ≤ kind) && (decide (kind ≤ 9) && (decide (name.length ≤ 64) && (decide (decB name = 0) && (decide (rev ≤ 1099511627776) && (farB pos && rowB us)))))) from hr.symm)
  have hb := (Below.refl w.heap.size w).alloc (Nat.le_refl _) (.cells #[.int .i64 kind, .int .u32 doc, .string ⟨name.toArray⟩, .int .u64 rev, .int .i64 pos, .slice p us.length c] 26)
  have HF := Lib.hid (hF.below hb)
  have H := Lib.hid (h.below hb)
  have HK := Lib.hid (Blk.new w 26 #[.int .i64 kind, .int .u32 doc, .string ⟨name.toArray⟩, .int .u64 rev, .int .i64 pos, .slice p us.length c])
  have HB := Lib.hid hb
  have es : (ByteArray.mk name.toArray).size = name.length := by simp [ByteArray.size]
  have kc := fun w => run_str w name
  clear hr hF h hb
  go_enter Tryd.func18, Tryd.ntmps18
  go_wp2_with fail
  clear kc
  rw [show w.heap.size + 1 = (w.alloc (.cells #[.int .i64 kind, .int .u32 doc, .string ⟨name.toArray⟩, .int .u64 rev, .int .i64 pos, .slice p us.length c] 26)).heap.size from (World.size_alloc _ _).symm]
  generalize w.alloc (.cells #[.int .i64 kind, .int .u32 doc, .string ⟨name.toArray⟩, .int .u64 rev, .int .i64 pos, .slice p us.length c] 26) = W1 at *
  have hX := bytesWorld_below W1 ⟨name.toArray⟩
  refine (utf_Decode (HF.out.below hX) (str_rd W1 name (by unfold maxLen; omega)) hn).mono ?_
  rintro _ w2 ⟨⟨s, rfl⟩, hb2⟩
  have hb3 := hX.trans (hb2.mono hX.size)
  have H2 := Lib.hid (H.out.below hb3)
  have HB2 := Lib.hid (HB.out.trans (hb3.mono HB.out.size))
  obtain ⟨m0, m1, m2, m3, m4, m5, -, hz⟩ := (HK.out.below hb3).c6
  obtain ⟨e, he⟩ : ∃ x, decB name = x := ⟨_, rfl⟩
  rw [he]
  have He := Lib.hid he
  clear hX hb2 hb3 H HB HK HF he
  by_cases k1 : 1 ≤ kind
  · have d1 : decide (1 ≤ kind) = true := by simpa using k1
    by_cases k2 : kind ≤ 9
    · have d2 : decide (kind ≤ 9) = true := by simpa using k2
      by_cases k3 : name.length ≤ 64
      · have d3 : decide ((name.length : Int) ≤ 64) = true := by simp; omega
        by_cases k4 : e = 0
        · have d4 : (e == (0 : Int)) = true := by simpa using k4
          by_cases k5 : rev ≤ 1099511627776
          · have d5 : decide (rev ≤ 1099511627776) = true := by simpa using k5
            have Hr2 := Lib.hid (show r = (farB pos && rowB us) by rw [Hr.out, decide_eq_true k1, decide_eq_true k2, decide_eq_true k3, He.out, decide_eq_true k4, decide_eq_true k5]; rfl)
            clear k1 k2 k3 k4 k5
            go_wp2_with fail
            refine cmd_far.mono ?_
            rintro _ _ ⟨rfl, rfl⟩
            cases hf : farB pos with
            | true =>
              have Hr3 := Lib.hid (show r = rowB us by rw [Hr2.out, hf]; rfl)
              clear hf
              go_wp2_with fail
              refine (cmd_row H2.out hl).mono ?_
              rintro _ w3 ⟨rfl, hb⟩
              have HB3 := Lib.hid (HB2.out.trans (hb.mono HB2.out.size))
              clear hb
              go_wp2_with fail
              go_ret
              exact ⟨by rw [Hr3.out]; rfl, HB3.out⟩
            | false =>
              obtain rfl : r = false := by rw [Hr2.out, hf]; rfl
              clear hf
              go_wp2_with fail
              go_ret
              exact ⟨rfl, HB2.out⟩
          · have d5 : decide (rev ≤ 1099511627776) = false := by simpa using k5
            obtain rfl : r = false := by rw [Hr.out, decide_eq_false k5]; simp
            clear k1 k2 k3 k4 k5
            go_wp2_with fail
            go_ret
            exact ⟨rfl, HB2.out⟩
        · have d4 : (e == (0 : Int)) = false := by simpa using k4
          obtain rfl : r = false := by rw [Hr.out, He.out, decide_eq_false k4]; simp
          clear k1 k2 k3 k4
          go_wp2_with fail
          go_ret
          exact ⟨rfl, HB2.out⟩
      · have d3 : decide ((name.length : Int) ≤ 64) = false := by simp; omega
        obtain rfl : r = false := by rw [Hr.out, decide_eq_false k3]; simp
        clear k1 k2 k3
        go_wp2_with fail
        go_ret
        exact ⟨rfl, HB2.out⟩
    · have d2 : decide (kind ≤ 9) = false := by simpa using k2
      obtain rfl : r = false := by rw [Hr.out, decide_eq_false k2]; simp
      clear k1 k2
      go_wp2_with fail
      go_ret
      exact ⟨rfl, HB2.out⟩
  · have d1 : decide (1 ≤ kind) = false := by simpa using k1
    obtain rfl : r = false := by rw [Hr.out, decide_eq_false k1]; simp
    clear k1
    go_wp2_with fail
    go_ret
    exact ⟨rfl, HB2.out⟩
end Go.Proofs.YtciojggkcmdjiaaDoor
