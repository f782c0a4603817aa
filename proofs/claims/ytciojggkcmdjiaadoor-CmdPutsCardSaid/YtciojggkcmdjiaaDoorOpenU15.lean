/-
  From the data of the arguments to what the walks ask: units, a change, bytes; the table of the forms as the row lists it.
-/
import Derived.Test.YtciojggkcmdjiaaDoorRows
import Derived.Test.YtciojggkcmdjiaaDoorPutC15
import Derived.ProofKit
import Derived.SizedLaws
import Derived.OpenShut
import Derived.Deep.Slices
import Derived.Deep.Fields
import Derived.Deep.Strs
import Derived.Laws.IdiomArrays
import Derived.Lib.LaidTab
import Derived.Lib.SmallJoins
import Derived.LaidMore
import Derived.Carry
namespace Go.Proofs.YtciojggkcmdjiaaDoor
open Go.RowKit Go.ChangeShapes Go.WideShapes Go.ChangeAt Go.Deep
set_option linter.unusedSimpArgs false
set_option linter.unusedVariables false
set_option maxRecDepth 100000

theorem own : ownKnob Tryd.prog.godebug = none := by kernel_rfl
theorem laidOut : laidOutB Tryd.prog = true := by kernel_rfl

section
variable {H : Type} {enc : TypeId × Value → H} {P : Program} {w : World} {base : Nat} {spare : Nat → Bool} {held : Bool}
theorem open_slice_fields {t e : TypeId} {fs : Array Field} {fuel : Nat} {cs : List Value} {x : DataW H × List MemPlace} (ht : P.underlying t = some (.slice e)) (he : P.underlying e = some (.struct fs))
    (hone : oneCellFields P fs = true) (hC : P.cellsOf e = fs.size) (h : DataW.trod enc P w base spare held fuel t cs = some x) :
    (cs = [.slice none 0 0] ∧ x = (.nil, [])) ∨
    ∃ (a : Addr) (len cap m : Nat) (D : Nat → DataW H) (Pl : Nat → List MemPlace), cs = [.slice (some a) len cap] ∧ base ≤ a.block ∧ len ≤ cap ∧ cap ≤ maxLen ∧ m = (if spare a.block then cap else len) ∧
      x = (.slice ((List.range len).map D) ((List.range (m - len)).map fun j => D (len + j)), MemPlace.row a (m * fs.size) ++ (List.range m).flatMap Pl) ∧
      ∀ i, i < m → ∃ (ys : List (DataW H × List MemPlace)) (n : Nat), D i = .agg (ys.map (·.1)) ∧ Pl i = ys.flatMap (·.2) ∧ ys.length = fs.size ∧
        ∀ (j : Nat) (f : Field), fs[j]? = some f → ∃ (v : Value) (y : DataW H × List MemPlace), w.cell? (a.add (i * fs.size + j)) = some v ∧ ys[j]? = some y ∧ DataW.trod enc P w base spare held n f.type [v] = some y := by
  rcases open_slice ht h with h0 | ⟨a, len, cap, m, n, D, Pl, hcs, hb, hl, hm, hmm, hx, hi⟩
  · exact .inl h0
  · refine .inr ⟨a, len, cap, m, D, Pl, hcs, hb, hl, hm, hmm, by rw [hC] at hx; exact hx, fun i him => ?_⟩
    obtain ⟨cs', hc, ht'⟩ := hi i him
    rw [hC] at hc
    obtain ⟨ys, n', hn', hy, hlen, hyl, hf⟩ := DataW.trod_struct he ht'
    obtain ⟨_, hcl, hat⟩ := World.cells?_some hc
    simp only [Prod.mk.injEq] at hy
    refine ⟨ys, n', hy.1, hy.2, hyl, fun j f hj => ?_⟩
    obtain ⟨ho, hk⟩ := hone_of hone j f hj
    have hjl : j < fs.size := (Array.getElem?_eq_some_iff.1 hj).1
    have hcell := hat j hjl
    have hv : cs'[j]? = some (cs'[j]'(by omega)) := List.getElem?_eq_getElem (by omega)
    have h1 := hf j f hj
    rw [ho, hk] at h1
    have hone' : (cs'.drop j).take 1 = [cs'[j]'(by omega)] := by
      rw [List.drop_eq_getElem_cons (by omega)]
      rfl
    rw [hone'] at h1
    have hys : ys[j]? = some (ys[j]'(by omega)) := List.getElem?_eq_getElem (by omega)
    refine ⟨_, _, ?_, hys, h1.trans hys⟩
    rw [← Go.Deep.add_add, hcell, hv]
end

theorem plain_addr {w : World} {a : Addr} {u : Value} (h : w.cell? (a.add 0) = some u) : a = ⟨a.block, a.off, none⟩ := by
  obtain ⟨b, o, s⟩ := a
  cases s with
  | none => rfl
  | some s => unfold World.cell? at h; simp only [Addr.add, if_true] at h; split at h <;> simp at h
theorem add_plain (b o i : Nat) : (⟨b, o, none⟩ : Addr).add i = ⟨b, o + i, none⟩ := by unfold Addr.add; split <;> simp_all
theorem u64_bounds {n : Int} (h : (Lit.int .u64 n).wf = true) : 0 ≤ n ∧ n ≤ 18446744073709551615 := by
  simp only [Lit.wf, IntKind.min, IntKind.max, IntKind.signed, IntKind.bits, Bool.and_eq_true, decide_eq_true_eq] at h
  simp at h
  omega
theorem u32_bounds {n : Int} (h : (Lit.int .u32 n).wf = true) : 0 ≤ n ∧ n ≤ 4294967295 := by
  simp only [Lit.wf, IntKind.min, IntKind.max, IntKind.signed, IntKind.bits, Bool.and_eq_true, decide_eq_true_eq] at h
  simp at h
  omega
theorem u8_bounds {n : Int} (h : (Lit.int .u8 n).wf = true) : 0 ≤ n ∧ n ≤ 255 := by
  simp only [Lit.wf, IntKind.min, IntKind.max, IntKind.signed, IntKind.bits, Bool.and_eq_true, decide_eq_true_eq] at h
  simp at h
  omega

section
variable {H : Type} {enc : TypeId × Value → H} {w : World}
theorem cells1 : Tryd.prog.cellsOf 5 = 1 := by kernel_rfl
/-- A slice of bytes that came in. -/
theorem open_bytes {fuel : Nat} {v : Value} {y : DataW H × List MemPlace} (h : DataW.trod enc Tryd.prog w 0 (fun _ => true) true fuel 27 [v] = some y) :
    ∃ bs : List UInt8, CmdRd w (fun j => j < w.heap.size) v bs := by
  rcases open_ints Tryd.underlying27 Tryd.underlying5 cells1 h with ⟨hcs, rfl⟩ | ⟨a, len, cap, zs, hcs, _, hl, hm, hz, rfl, hcell, hwf⟩
  · injection hcs with hv
    subst hv
    exact ⟨[], Rd.nil _ _ _⟩
  · injection hcs with hv
    subst hv
    simp only [if_true] at hz
    have hlen : ((zs.take len).map fun n => UInt8.ofNat n.toNat).length = len := by rw [List.length_map, List.length_take]; omega
    refine ⟨(zs.take len).map fun n => UInt8.ofNat n.toNat, ?_⟩
    unfold CmdRd
    rw [hlen]
    refine ⟨by rw [bcells_len, hlen, Nat.mul_one], some a, cap, rfl, hl, hm, fun h0 => ?_⟩
    have h00 := hcell 0 (by omega)
    have hp := plain_addr h00
    have h01 := h00
    rw [hp, add_plain] at h01
    refine ⟨a.block, a.off, by rw [← hp], lt_of_cell h01, fun j u hu => ?_⟩
    have hj : j < len := by have := (List.getElem?_eq_some_iff.1 hu).1; rw [bcells_len, hlen] at this; exact this
    have hc := hcell j (by omega)
    rw [hp, add_plain] at hc
    rw [hc, ← hu]
    have hb := u8_bounds (hwf zs[j] (List.getElem_mem (by omega)))
    have hz2 : zs.getD j 0 = zs[j] := by simp [List.getD, List.getElem?_eq_getElem (show j < zs.length by omega)]
    rw [hz2]
    have e : (bcells ((zs.take len).map fun n => UInt8.ofNat n.toNat))[j]? = some (.int .u8 ((UInt8.ofNat (zs[j]).toNat).toNat : Int)) := by
      simp [bcells, List.getElem?_take, hj, List.getElem?_eq_getElem (show j < zs.length by omega)]
    rw [e]
    have : ((UInt8.ofNat (zs[j]).toNat).toNat : Int) = zs[j] := by
      rw [UInt8.toNat_ofNat']
      omega
    rw [this]

theorem kcells : Tryd.prog.cellsOf 3 = 1 ∧ Tryd.prog.cellsOf 76 = 1 ∧ Tryd.prog.cellsOf 22 = 1 ∧ Tryd.prog.cellsOf 23 = 1 ∧ Tryd.prog.cellsOf 44 = 2 ∧ Tryd.prog.cellsOf 78 = 5 := ⟨by kernel_rfl, by kernel_rfl, by kernel_rfl, by kernel_rfl, by kernel_rfl, by kernel_rfl⟩
theorem open_unit {fuel : Nat} {cs : List Value} {y : DataW H × List MemPlace} (h : DataW.trod enc Tryd.prog w 0 (fun _ => true) true fuel 78 cs = some y) : ∃ e : Ut, cs = utCells e ∧ WfU e := by
  obtain ⟨k8, k32, ku, k64, ki, kn⟩ := kcells
  obtain ⟨y0, y1, y2, y3, n, _, hl, t0, t1, t2, t3⟩ := Go.Joins.trod_struct4 Tryd.underlying78 h
  rw [kn] at hl
  match cs, hl with
  | [c0, c1, c2, c3, c4], _ =>
    simp only [k8, k32, ku, k64, ki, List.drop_zero, List.drop_succ_cons, List.take_succ_cons, List.take_zero, List.take_nil] at t0 t1 t2 t3
    obtain ⟨x0, e0, _, _⟩ := DataW.trod_int Tryd.underlying3 t0
    obtain ⟨x1, e1, _, _⟩ := DataW.trod_int Tryd.underlying3 t1
    obtain ⟨x2, e2, _, _⟩ := DataW.trod_int Tryd.underlying76 t2
    obtain ⟨z0, z1, m, _, _, s0, s1⟩ := trod_struct2 Tryd.underlying44 t3
    simp only [k8, k32, ku, k64, ki, List.drop_zero, List.drop_succ_cons, List.take_succ_cons, List.take_zero, List.take_nil] at s0 s1
    obtain ⟨x3, e3, _, w3⟩ := DataW.trod_int Tryd.underlying22 s0
    obtain ⟨x4, e4, _, w4⟩ := DataW.trod_int Tryd.underlying23 s1
    injection e0 with e0
    injection e1 with e1
    injection e2 with e2
    injection e3 with e3
    injection e4 with e4
    subst e0; subst e1; subst e2; subst e3; subst e4
    exact ⟨⟨x0, x1, x2, x3, x4⟩, rfl, ⟨u32_bounds w3, u64_bounds w4⟩⟩
/-- A slice of units that came in. -/
theorem open_units {fuel : Nat} {v : Value} {y : DataW H × List MemPlace} (h : DataW.trod enc Tryd.prog w 0 (fun _ => true) true fuel 24 [v] = some y) :
    ∃ us : List Ut, UtsRd w (fun j => j < w.heap.size) v us ∧ ∀ u ∈ us, WfU u := by
  rcases open_slice Tryd.underlying24 h with ⟨hcs, hd⟩ | ⟨a, len, cap, m, n, D, Pl, hcs, _, hl, hm, hmm, hd, hi⟩
  · injection hcs with hv
    rw [hv]
    exact ⟨[], ⟨[], Rd.nil _ _ _, Els.nil _ _⟩, fun e h => by cases h⟩
  · injection hcs with hv
    rw [hv]
    simp only [if_true] at hmm
    subst hmm
    have key : ∀ i, i < len → ∃ (e : Ut), w.cell? (a.add (i * 5)) = some (.int .i64 e.kind) ∧ w.cell? (a.add (i * 5 + 1)) = some (.int .i64 e.pos) ∧ w.cell? (a.add (i * 5 + 2)) = some (.int .i32 e.chr) ∧
        w.cell? (a.add (i * 5 + 3)) = some (.int .u32 e.cl) ∧ w.cell? (a.add (i * 5 + 4)) = some (.int .u64 e.rq) ∧ WfU e := by
      intro i hlt
      obtain ⟨cs', hc, ht'⟩ := hi i (by omega)
      rw [kcells.2.2.2.2.2] at hc
      obtain ⟨e, rfl, hw⟩ := open_unit ht'
      obtain ⟨_, hcl, hat⟩ := World.cells?_some hc
      have h := fun j hj => (congrArg (w.cell? ·) (Go.Deep.add_add a (i * 5) j)).symm.trans (hat j hj)
      refine ⟨e, ?_, h 1 (by decide), h 2 (by decide), h 3 (by decide), h 4 (by decide), hw⟩
      have h0 := h 0 (by decide)
      rw [Nat.add_zero] at h0
      exact h0
    have build : ∀ k, k ≤ len → ∃ (cs : List Value) (es : List Ut), es.length = k ∧ Els UtR 5 cs es ∧ (∀ j u, cs[j]? = some u → w.cell? (a.add j) = some u) ∧ ∀ u ∈ es, WfU u := by
      intro k
      induction k with
      | zero => exact fun _ => ⟨[], [], rfl, Els.nil _ _, (fun j u h => by simp at h), (fun e h => by cases h)⟩
      | succ k ih =>
        intro hk
        obtain ⟨cs, es, hlen, hE, hc, hF⟩ := ih (by omega)
        obtain ⟨e, q0, q1, q2, q3, q4, hw⟩ := key k (by omega)
        refine ⟨cs ++ utCells e, es ++ [e], by simp [hlen], Els.snoc hE rfl (show UtR (utCells e) e from rfl), ?_, ?_⟩
        · intro j u hu
          have hcl : cs.length = k * 5 := by rw [hE.1, hlen]
          rcases Nat.lt_or_ge j cs.length with hj | hj
          · rw [List.getElem?_append_left hj] at hu
            exact hc j u hu
          · rw [List.getElem?_append_right hj] at hu
            obtain ⟨i, rfl⟩ : ∃ i, j = k * 5 + i := ⟨j - k * 5, by omega⟩
            rw [hcl, Nat.add_sub_cancel_left] at hu
            unfold utCells at hu
            match i, hu with
            | 0, hu => simp at hu; subst hu; exact q0
            | 1, hu => simp at hu; subst hu; exact q1
            | 2, hu => simp at hu; subst hu; exact q2
            | 3, hu => simp at hu; subst hu; exact q3
            | 4, hu => simp at hu; subst hu; exact q4
            | i + 5, hu => simp at hu
        · intro x hx
          rcases List.mem_append.1 hx with hx | hx
          · exact hF x hx
          · simp at hx; subst hx; exact hw
    obtain ⟨cs, es, hlen, hE, hc, hF⟩ := build len (Nat.le_refl _)
    refine ⟨es, ⟨cs, ⟨hE.1, some a, m, by rw [hlen], by omega, hm, fun h0 => ?_⟩, hE⟩, hF⟩
    obtain ⟨e, q0, _⟩ := key 0 (by omega)
    have hp := plain_addr (by simpa using q0)
    have h01 := q0
    rw [hp, add_plain] at h01
    refine ⟨a.block, a.off, by rw [← hp], lt_of_cell h01, fun j u hu => ?_⟩
    have := hc j u hu
    rw [hp, add_plain] at this
    exact this

/-- A change that came in. -/
theorem open_cmd {r : Reach} {b0 : Nat} {v : Value} {d : DataW H} {ps : List MemPlace} (hv : Value.okWide Tryd.prog w r b0 26 v) (h : DataW.Trod enc Tryd.prog w 0 (fun _ => true) true 26 v d ps) :
    ∃ (kind doc rev pos : Int) (name : List UInt8) (p : Option Addr) (c : Nat) (us : List Ut), v = .agg #[.int .i64 kind, .int .u32 doc, .string ⟨name.toArray⟩, .int .u64 rev, .int .i64 pos, .slice p us.length c] ∧
      UtsRd w (fun j => j < w.heap.size) (.slice p us.length c) us ∧ WfC ⟨kind, doc, name, rev, pos, us⟩ := by
  have hs := Tryd.underlying26
  obtain ⟨⟨cs⟩, rfl, hsz⟩ := okWide_struct hs hv
  have hC : Tryd.prog.cellsOf 26 = 6 := by kernel_rfl
  rw [hC] at hsz
  obtain ⟨fuel, hf⟩ := h
  obtain ⟨xs, n, _, hx, hl, hlen, hfld⟩ := DataW.trod_struct hs hf
  match cs, hsz with
  | [c0, c1, c2, c3, c4, c5], _ =>
    have t0 := hfld 0 _ rfl
    have t1 := hfld 1 _ rfl
    have t2 := hfld 2 _ rfl
    have t3 := hfld 3 _ rfl
    have t4 := hfld 4 _ rfl
    have t5 := hfld 5 _ rfl
    obtain ⟨k8, -, k32, k64, -, -⟩ := kcells
    have ks : Tryd.prog.cellsOf 9 = 1 := by kernel_rfl
    have ku : Tryd.prog.cellsOf 24 = 1 := by kernel_rfl
    simp only [Value.cells, k8, k32, ks, k64, ku, List.drop_zero, List.drop_succ_cons, List.take_succ_cons, List.take_zero] at t0 t1 t2 t3 t4 t5
    match xs, hlen with
    | [y0, y1, y2, y3, y4, y5], _ =>
      simp only [List.getElem?_cons_zero, List.getElem?_cons_succ] at t0 t1 t2 t3 t4 t5
      obtain ⟨x0, e0, _, _⟩ := DataW.trod_int Tryd.underlying3 t0
      obtain ⟨x1, e1, _, w1⟩ := DataW.trod_int Tryd.underlying22 t1
      obtain ⟨s, e2, _, _⟩ := DataW.trod_string Tryd.underlying9 t2
      obtain ⟨x3, e3, _, w3⟩ := DataW.trod_int Tryd.underlying23 t3
      obtain ⟨x4, e4, _, _⟩ := DataW.trod_int Tryd.underlying3 t4
      obtain ⟨us, hU, hW⟩ := open_units t5
      obtain ⟨p, c, rfl⟩ := hU.slice
      injection e0 with e0
      injection e1 with e1
      injection e2 with e2
      injection e3 with e3
      injection e4 with e4
      subst e0; subst e1; subst e2; subst e3; subst e4
      refine ⟨x0, x1, x3, x4, s.data.toList, p, c, us, ?_, hU, ⟨u32_bounds w1, (u64_bounds w3).1, hW⟩⟩
      rfl
end

/-- A type whose data a row may read. -/
def CanRead (t : TypeId) : Prop := Tryd.prog.readableRec t = true ∧ t < Tryd.prog.types.size

/-- ARGS of a law's row: what was there reads as it did. -/
theorem args_kept {H : Type} {enc : TypeId × Value → H} {W W' : World} (ts : List TypeId) : ∀ {vs : List Value} {ds : List (DataW H)} {ps : List MemPlace}, (∀ t ∈ ts, CanRead t) →
    DataW.TrodAll enc Tryd.prog W 0 (fun _ => true) true ts vs ds ps → Below W.heap.size W W' → (∀ x ∈ ps, x.block < W.heap.size) → DataW.TrodAll enc Tryd.prog W' 0 (fun b => decide (b < W.heap.size)) true ts vs ds ps := by
  induction ts with
  | nil =>
    intro vs ds ps _ h _ _
    obtain ⟨rfl, rfl, rfl⟩ := trodAll_nil h
    exact trodAll_mk0
  | cons t ts ih =>
    intro vs ds ps hr h hb hlt
    obtain ⟨v, vs', d, ds', p, q, rfl, rfl, rfl, h1, h2⟩ := trodAll_cons h
    exact trodAll_cons_mk (Below.trod laidOut (hr t List.mem_cons_self).1 (hr t List.mem_cons_self).2 h1 hb fun x hx => hlt x (List.mem_append.2 (.inl hx)))
      (ih (fun u hu => hr u (List.mem_cons_of_mem _ hu)) h2 hb fun x hx => hlt x (List.mem_append.2 (.inr hx)))

/-! The table of the forms. -/
theorem gForms : Tryd.prog.globalNamed "copybook/utf.forms" = some 0 := by kernel_rfl
theorem gFormsType : (Tryd.prog.globals[0]?).map (·.type) = some 131 := by kernel_rfl
theorem forms_cells {fuel : Nat} {W : World} {enc : TypeId × Value → Unit} {sp : Nat → Bool} {held : Bool} {base : Nat} {cs : List Value} {p : List MemPlace} (h : DataW.trod enc Tryd.prog W base sp held fuel 131 cs = some (Rows.laid_copybook_utf_forms, p)) : cs = fcells := by
  have cf : Tryd.prog.cellsOf 130 = 3 := by kernel_rfl
  have ca : Tryd.prog.cellsOf 131 = 12 := by kernel_rfl
  have k32 : Tryd.prog.cellsOf 76 = 1 := by kernel_rfl
  have k8 : Tryd.prog.cellsOf 5 = 1 := by kernel_rfl
  have k64 : Tryd.prog.cellsOf 119 = 1 := by kernel_rfl
  obtain ⟨xs, m, _, hx, hl, hn, hel⟩ := DataW.trod_array Tryd.underlying131 h
  rw [ca] at hl
  rw [cf] at hel
  have row : ∀ {cs : List Value} {x : DataW Unit × List MemPlace} {a b c : Int}, DataW.trod enc Tryd.prog W base sp held m 130 cs = some x → x.1 = .agg [.lit (.int .i32 a), .lit (.int .u8 b), .lit (.int .u64 c)] → cs.length = 3 → cs = [.int .i32 a, .int .u8 b, .int .u64 c] := by
    intro cs x a b c ht hx hl
    obtain ⟨y0, y1, y2, n, hx', _, h0, h1, h2⟩ := trod_struct3 Tryd.underlying130 ht
    match cs, hl with
    | [c0, c1, c2], _ =>
      simp only [k32, k8, k64, List.drop_zero, List.drop_succ_cons, List.take_succ_cons, List.take_zero] at h0 h1 h2
      obtain ⟨z0, e0, q0, _⟩ := DataW.trod_int Tryd.underlying76 h0
      obtain ⟨z1, e1, q1, _⟩ := DataW.trod_int Tryd.underlying5 h1
      obtain ⟨z2, e2, q2, _⟩ := DataW.trod_int Tryd.underlying119 h2
      rw [hx', q0, q1, q2] at hx
      simp at hx
      obtain ⟨rfl, rfl, rfl⟩ := hx
      injection e0 with e0
      injection e1 with e1
      injection e2 with e2
      rw [e0, e1, e2]
  match cs, hl with
  | [c0, c1, c2, c3, c4, c5, c6, c7, c8, c9, c10, c11], _ =>
    match xs, hn with
    | [x0, x1, x2, x3], _ =>
      have t0 := hel 0 (by decide)
      have t1 := hel 1 (by decide)
      have t2 := hel 2 (by decide)
      have t3 := hel 3 (by decide)
      simp only [Nat.zero_mul, Nat.one_mul, Nat.reduceMul, List.drop_zero, List.drop_succ_cons, List.take_succ_cons, List.take_zero, List.getElem?_cons_zero, List.getElem?_cons_succ] at t0 t1 t2 t3
      unfold Rows.laid_copybook_utf_forms at hx
      simp only [Prod.mk.injEq, DataW.agg.injEq, List.map_cons, List.map_nil, List.cons.injEq, and_true] at hx
      obtain ⟨⟨h0, h1, h2, h3⟩, _⟩ := hx
      have r0 := row t0 h0.symm rfl
      have r1 := row t1 h1.symm rfl
      have r2 := row t2 h2.symm rfl
      have r3 := row t3 h3.symm rfl
      injection r0 with a0 r0; injection r0 with a1 r0; injection r0 with a2 _
      injection r1 with b0 r1; injection r1 with b1 r1; injection r1 with b2 _
      injection r2 with d0 r2; injection r2 with d1 r2; injection r2 with d2 _
      injection r3 with f0 r3; injection r3 with f1 r3; injection r3 with f2 _
      rw [a0, a1, a2, b0, b1, b2, d0, d1, d2, f0, f1, f2]
      rfl
theorem forms_of_laid {W : World} (h : laidMetH Tryd.prog [("copybook/utf.forms", Rows.laid_copybook_utf_forms)] W) : Forms W := by
  have h' : laidMet Tryd.prog [("copybook/utf.forms", Rows.laid_copybook_utf_forms)] W := h
  obtain ⟨ps, ⟨g', t', cs, fuel, p, q, hg', ht', hvar, hd, _, _⟩, _⟩ := h'
  obtain rfl := Option.some.inj (gForms.symm.trans hg')
  obtain rfl := Option.some.inj (gFormsType.symm.trans ht')
  have e := forms_cells hd
  have hc : ∀ j u, fcells[j]? = some u → W.cell? ⟨0, j, none⟩ = some u := by
    intro j u hj
    have := World.var?_cell hg' hvar j
    rw [this, ← hj, ← e]
    simp
  exact ⟨hc, lt_of_cell (hc 0 _ rfl)⟩
theorem door_met (os : Os) (args : Array Value) : laidMet Tryd.prog [("copybook/utf.forms", Rows.laid_copybook_utf_forms)] ((World.doorLaid Tryd.prog 400 os).forCall (fun _ _ => 0) ⟨#[], args, []⟩).memory :=
  laidMet_of_run' 8 (by kernel_rfl) (by kernel_rfl)
end Go.Proofs.YtciojggkcmdjiaaDoor
