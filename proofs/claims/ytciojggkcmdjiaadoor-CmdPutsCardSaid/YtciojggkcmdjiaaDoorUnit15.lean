/-
  unit.May, cmd.far, cmd.row: whether a row of units may be: their contracts.
-/
import Derived.Test.YtciojggkcmdjiaaDoorUtf15
namespace Go.Proofs.YtciojggkcmdjiaaDoor
open Go.RowKit
set_option linter.unusedSimpArgs false
set_option linter.unusedVariables false

structure Ut where
  kind : Int
  pos : Int
  chr : Int
  cl : Int
  rq : Int
deriving DecidableEq
def utCells (u : Ut) : List Value := [.int .i64 u.kind, .int .i64 u.pos, .int .i32 u.chr, .int .u32 u.cl, .int .u64 u.rq]
def utVal (u : Ut) : Value := .agg #[.int .i64 u.kind, .int .i64 u.pos, .int .i32 u.chr, .int .u32 u.cl, .int .u64 u.rq]
def UtR (c : List Value) (u : Ut) : Prop := c = utCells u
def UtsRd (w : World) (S : Nat → Prop) (v : Value) (us : List Ut) : Prop := ∃ cs, Rd w S 5 v us.length cs ∧ Els UtR 5 cs us
theorem UtsRd.keep {w w' : World} {S S' : Nat → Prop} {v : Value} {us : List Ut} (h : UtsRd w S v us) (hk : ∀ k, k < w.heap.size → S k → w'.heap[k]? = w.heap[k]?) (hs : ∀ k, S k → k < w.heap.size → S' k) : UtsRd w' S' v us := by
  obtain ⟨cs, hr, hE⟩ := h
  exact ⟨cs, hr.keep hk hs (by decide), hE⟩
theorem UtsRd.below {w w' : World} {S : Nat → Prop} {v : Value} {us : List Ut} (h : UtsRd w S v us) (hb : Below w.heap.size w w') : UtsRd w' S v us :=
  h.keep (fun k hk _ => hb.block k hk) (fun _ h _ => h)
theorem UtsRd.slice {w : World} {S : Nat → Prop} {v : Value} {us : List Ut} (h : UtsRd w S v us) : ∃ p c, v = .slice p us.length c := by
  obtain ⟨_, hr, _⟩ := h
  exact Rd.slice hr
theorem five_at {cs : List Value} {k : Nat} {a b c d e : Value} (h : (cs.drop k).take 5 = [a, b, c, d, e]) : cs[k]? = some a ∧ cs[k + 1]? = some b ∧ cs[k + 2]? = some c ∧ cs[k + 3]? = some d ∧ cs[k + 4]? = some e := by
  have g : ∀ j, j < 5 → cs[k + j]? = [a, b, c, d, e][j]? := fun j hj => by rw [← h, List.getElem?_take_of_lt hj, List.getElem?_drop]
  exact ⟨by simpa using g 0 (by omega), by simpa using g 1 (by omega), by simpa using g 2 (by omega), by simpa using g 3 (by omega), by simpa using g 4 (by omega)⟩
/-- The j-th unit, cell by cell. -/
theorem UtsRd.at_ {w : World} {S : Nat → Prop} {p : Option Addr} {c : Nat} {us : List Ut} (h : UtsRd w S (.slice p us.length c) us) {j : Nat} (hj : j < us.length) : ∃ g off, p = some ⟨g, off, none⟩ ∧ us.length ≤ c ∧ w.cell? ⟨g, off + j * 5, none⟩ = some (.int .i64 us[j].kind) ∧ w.cell? ⟨g, off + j * 5 + 1, none⟩ = some (.int .i64 us[j].pos) ∧
    w.cell? ⟨g, off + j * 5 + 2, none⟩ = some (.int .i32 us[j].chr) ∧ w.cell? ⟨g, off + j * 5 + 3, none⟩ = some (.int .u32 us[j].cl) ∧ w.cell? ⟨g, off + j * 5 + 4, none⟩ = some (.int .u64 us[j].rq) := by
  obtain ⟨cs, hr, hE⟩ := h
  obtain ⟨g, off, he, hc, -, hcell⟩ := Rd.addr hr (by omega)
  have hu : (cs.drop (j * 5)).take 5 = utCells us[j] := hE.2 j us[j] (List.getElem?_eq_getElem hj)
  obtain ⟨h0, h1, h2, h3, h4⟩ := five_at hu
  exact ⟨g, off, he, hc, hcell _ _ h0, hcell _ _ h1, hcell _ _ h2, hcell _ _ h3, hcell _ _ h4⟩

/-- Whether a unit may be. -/
def mayU (u : Ut) : Bool := if u.kind = 0 then decide (u.pos = 0) && decide (u.chr = 0) else if u.kind = 1 ∨ u.kind = 2 then decide (0 ≤ u.pos) && mayC u.chr else false
def farB (p : Int) : Bool := decide (0 ≤ p) && decide (p ≤ 2147483648)
def badU (u : Ut) : Bool := !mayU u || !farB u.pos
def rowB (us : List Ut) : Bool := decide (us.length ≤ 256) && !us.any badU
theorem cmd_far {w : World} {p : Int} : Calls Tryd.prog 50 #[.int .i64 p] w fun x w' => x = .returned (.bool (farB p)) ∧ w = w' := by
  unfold farB
  by_cases h0 : 0 ≤ p
  · have d0 : decide (0 ≤ p) = true := by simpa using h0
    rw [d0]
    go_enter Tryd.func50, Tryd.ntmps50
    go_wp2_with fail
    go_ret
    exact ⟨rfl, rfl⟩
  · have d0 : decide (0 ≤ p) = false := by simpa using h0
    rw [d0]
    go_enter Tryd.func50, Tryd.ntmps50
    go_wp2_with fail
    go_ret
    exact ⟨rfl, rfl⟩
theorem unit_May {w : World} {u : Ut} : Calls Tryd.prog 75 #[utVal u] w fun x w' => x = .returned (.bool (mayU u)) ∧ Below w.heap.size w w' := by
  obtain ⟨r, hr⟩ : ∃ x, mayU u = x := ⟨_, rfl⟩
  rw [hr]
  have Hr := Lib.hid hr
  clear hr
  obtain ⟨kind, pos, chr, cl, rq⟩ := u
  unfold utVal
  have HB := Lib.hid ((Below.refl w.heap.size w).alloc (Nat.le_refl _) (.cells #[.int .i64 kind, .int .i64 pos, .int .i32 chr, .int .u32 cl, .int .u64 rq] 78))
  by_cases k0 : kind = 0
  · subst k0
    by_cases p0 : pos = 0
    · subst p0
      obtain rfl : r = decide (chr = 0) := by rw [← Hr.out]; rfl
      go_enter Tryd.func75, Tryd.ntmps75
      go_wp2_with fail
      go_ret
      exact ⟨rfl, HB.out⟩
    · have d0 : (pos == (0 : Int)) = false := by simpa using p0
      obtain rfl : r = false := by rw [← Hr.out]; unfold mayU; simp [p0]
      go_enter Tryd.func75, Tryd.ntmps75
      go_wp2_with fail
      go_ret
      exact ⟨rfl, HB.out⟩
  · have d0 : (kind == (0 : Int)) = false := by simpa using k0
    by_cases k1 : kind = 1 ∨ kind = 2
    · have hm : r = (decide (0 ≤ pos) && mayC chr) := by rw [← Hr.out]; unfold mayU; rw [if_neg k0, if_pos k1]
      have Hm := Lib.hid hm
      clear hm k0
      by_cases p0 : 0 ≤ pos
      · have dp : decide (0 ≤ pos) = true := by simpa using p0
        obtain rfl : r = mayC chr := by rw [Hm.out, dp]; rfl
        rcases k1 with rfl | rfl
        · go_enter Tryd.func75, Tryd.ntmps75
          go_wp2_with fail
          refine utf_May.mono ?_
          rintro _ _ ⟨rfl, rfl⟩
          go_wp2_with fail
          go_ret
          exact ⟨rfl, HB.out⟩
        · go_enter Tryd.func75, Tryd.ntmps75
          go_wp2_with fail
          refine utf_May.mono ?_
          rintro _ _ ⟨rfl, rfl⟩
          go_wp2_with fail
          go_ret
          exact ⟨rfl, HB.out⟩
      · have dp : decide (0 ≤ pos) = false := by simpa using p0
        obtain rfl : r = false := by rw [Hm.out, dp]; rfl
        rcases k1 with rfl | rfl
        · go_enter Tryd.func75, Tryd.ntmps75
          go_wp2_with fail
          go_ret
          exact ⟨rfl, HB.out⟩
        · go_enter Tryd.func75, Tryd.ntmps75
          go_wp2_with fail
          go_ret
          exact ⟨rfl, HB.out⟩
    · have d1 : (kind == (1 : Int)) = false := by rw [beq_eq_false_iff_ne]; omega
      have d2 : (kind == (2 : Int)) = false := by rw [beq_eq_false_iff_ne]; omega
      obtain rfl : r = false := by rw [← Hr.out]; unfold mayU; rw [if_neg k0, if_neg k1]
      clear k0 k1
      go_enter Tryd.func75, Tryd.ntmps75
      go_wp2_with fail
      go_ret
      exact ⟨rfl, HB.out⟩
theorem row_1 {w : World} {u : Ut} : Calls Tryd.prog 74 #[utVal u] w fun x w' => x = .returned (.bool (badU u)) ∧ Below w.heap.size w w' := by
  obtain ⟨r, hr⟩ : ∃ x, badU u = x := ⟨_, rfl⟩
  rw [hr]
  have Hr0 := Lib.hid hr
  clear hr
  have hB := (Below.refl w.heap.size w).alloc (Nat.le_refl _) (.cells #[.int .i64 u.kind, .int .i64 u.pos, .int .i32 u.chr, .int .u32 u.cl, .int .u64 u.rq] 78)
  have HK := Lib.hid (Blk.new w 78 #[.int .i64 u.kind, .int .i64 u.pos, .int .i32 u.chr, .int .u32 u.cl, .int .u64 u.rq])
  have HB := Lib.hid hB
  clear hB
  have hu : utVal u = .agg #[.int .i64 u.kind, .int .i64 u.pos, .int .i32 u.chr, .int .u32 u.cl, .int .u64 u.rq] := rfl
  rw [hu]
  have Hu := Lib.hid hu
  clear hu
  go_enter Tryd.func74, Tryd.ntmps74
  go_wp2_with fail
  rw [← Hu.out]
  refine unit_May.mono ?_
  rintro _ w2 ⟨rfl, hb⟩
  have m1 := (HK.out.below hb).cell 1
  simp only [List.getElem?_toArray, List.getElem?_cons_succ, List.getElem?_cons_zero] at m1
  have HB2 := Lib.hid (HB.out.trans (hb.mono HB.out.size))
  clear hb
  obtain ⟨m, hm⟩ : ∃ x, mayU u = x := ⟨_, rfl⟩
  obtain ⟨f, hf⟩ : ∃ x, farB u.pos = x := ⟨_, rfl⟩
  rw [hm]
  have Hr := Lib.hid (show r = (!m || !f) by rw [← Hr0.out, ← hm, ← hf]; rfl)
  have Hf := Lib.hid hf
  clear hm hf
  cases m with
  | false =>
    obtain rfl : r = true := Hr.out
    go_wp2_with fail
    go_ret
    exact ⟨rfl, HB2.out⟩
  | true =>
    obtain rfl : r = !f := Hr.out
    go_wp2_with fail
    refine cmd_far.mono ?_
    rw [Hf.out]
    rintro _ _ ⟨rfl, rfl⟩
    go_wp2_with fail
    go_ret
    exact ⟨rfl, HB2.out⟩
end Go.Proofs.YtciojggkcmdjiaaDoor
