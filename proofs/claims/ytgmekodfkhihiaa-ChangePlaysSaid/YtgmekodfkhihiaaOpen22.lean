/-
  From the data of the arguments to what the walks ask: bytes, entries; how every law's row is closed.
-/
import Derived.Test.YtgmekodfkhihiaaEnt22
import Derived.ProofKit
import Derived.SizedLaws
import Derived.Deep.Slices
import Derived.Deep.Fields
namespace Go.Proofs.Ytgmekodfkhihiaa
open Go.RowKit Go.ChangeShapes Go.WideShapes Go.ChangeAt Go.Deep
set_option linter.unusedSimpArgs false

theorem own : ownKnob Try.prog.godebug = none := by kernel_rfl
theorem laidOut : laidOutB Try.prog = true := by kernel_rfl

section
variable {H : Type} {enc : TypeId × Value → H} {P : Program} {w : World} {base : Nat} {spare : Nat → Bool} {held : Bool}
theorem open_slice_fields {t e : TypeId} {fs : Array Field} {fuel : Nat} {cs : List Value} {x : DataW H × List MemPlace} (ht : P.underlying t = some (.slice e)) (he : P.underlying e = some (.struct fs))
    (hone : oneCellFields P fs = true) (hC : P.cellsOf e = fs.size) (h : DataW.trod enc P w base spare held fuel t cs = some x) :
    (cs = [.slice none 0 0] ∧ x = (.nil, [])) ∨
    ∃ (a : Addr) (len cap m : Nat) (D : Nat → DataW H) (Pl : Nat → List MemPlace), cs = [.slice (some a) len cap] ∧ base ≤ a.block ∧ len ≤ cap ∧ cap ≤ maxLen ∧ m = (if spare a.block then cap else len) ∧
      x = (.slice ((List.range len).map D) ((List.range (m - len)).map fun j => D (len + j)), MemPlace.row a (m * fs.size) ++ (List.range m).flatMap Pl) ∧
      ∀ i, i < m → ∃ (ys : List (DataW H × List MemPlace)) (n : Nat), D i = .agg (ys.map (·.1)) ∧ Pl i = ys.flatMap (·.2) ∧ ys.length = fs.size ∧
        ∀ (j : Nat) (f : Field), fs[j]? = some f → ∃ (v : Value) (y : DataW H × List MemPlace), w.cell? (a.add (i * fs.size + j)) = some v ∧ ys[j]? = some y ∧ DataW.trod enc P w base spare held n f.type [v] = some y := by
  rcases open_slice ht h with h0 | ⟨a, len, cap, m, n, D, Pl, hcs, hb, hl, hm, hmm, hx, hi⟩
  · exact .inl h0
  · refine .inr ⟨a, len, cap, m, D, Pl, hcs, hb, hl, hm, hmm, by rw [hC] at hx; exact hx, fun i him => ?_⟩
    obtain ⟨cs', hc, ht'⟩ := hi i him
    rw [hC] at hc
    obtain ⟨ys, n', hn', hy, hlen, hyl, hf⟩ := DataW.trod_struct he ht'
    obtain ⟨_, hcl, hat⟩ := World.cells?_some hc
    simp only [Prod.mk.injEq] at hy
    refine ⟨ys, n', hy.1, hy.2, hyl, fun j f hj => ?_⟩
    obtain ⟨ho, hk⟩ := hone_of hone j f hj
    have hjl : j < fs.size := (Array.getElem?_eq_some_iff.1 hj).1
    have hcell := hat j hjl
    have hv : cs'[j]? = some (cs'[j]'(by omega)) := List.getElem?_eq_getElem (by omega)
    have h1 := hf j f hj
    rw [ho, hk] at h1
    have hone' : (cs'.drop j).take 1 = [cs'[j]'(by omega)] := by
      rw [List.drop_eq_getElem_cons (by omega)]
      rfl
    rw [hone'] at h1
    have hys : ys[j]? = some (ys[j]'(by omega)) := List.getElem?_eq_getElem (by omega)
    refine ⟨_, _, ?_, hys, h1.trans hys⟩
    rw [← Go.Deep.add_add, hcell, hv]
end

section
variable {H : Type} {enc : TypeId × Value → H} {w : World}

/-- A place that has cells is a plain one. -/
theorem plain_addr {a : Addr} {u : Value} (h : w.cell? (a.add 0) = some u) : a = ⟨a.block, a.off, none⟩ := by
  obtain ⟨b, o, s⟩ := a
  cases s with
  | none => rfl
  | some s => unfold World.cell? at h; simp only [Addr.add, if_true] at h; split at h <;> simp at h

theorem add_plain (b o i : Nat) : (⟨b, o, none⟩ : Addr).add i = ⟨b, o + i, none⟩ := by unfold Addr.add; split <;> simp_all

theorem cells1 : Try.prog.cellsOf 5 = 1 := by kernel_rfl
theorem bytes1 : Try.prog.bytesOf 5 = 1 := by kernel_rfl

/-- A slice of bytes that came in. -/
theorem open_bytes {fuel : Nat} {v : Value} {y : DataW H × List MemPlace} (h : DataW.trod enc Try.prog w 0 (fun _ => true) true fuel 30 [v] = some y) :
    ∃ bs : List UInt8, CmdRd w (fun j => j < w.heap.size) v bs ∧ ∀ n, (∀ x ∈ y.1.weights Try.prog 30, x ≤ n) → bs.length ≤ n := by
  rcases open_ints Try.underlying30 Try.underlying5 cells1 h with ⟨hcs, rfl⟩ | ⟨a, len, cap, zs, hcs, _, hl, hm, hz, rfl, hcell, hwf⟩
  · injection hcs with hv
    subst hv
    exact ⟨[], Rd.nil _ _ _, fun n _ => Nat.zero_le _⟩
  · injection hcs with hv
    subst hv
    simp only [if_true] at hz
    have hlen : ((zs.take len).map fun n => UInt8.ofNat n.toNat).length = len := by rw [List.length_map, List.length_take]; omega
    refine ⟨(zs.take len).map fun n => UInt8.ofNat n.toNat, ?_, fun n hn => ?_⟩
    · unfold CmdRd
      rw [hlen]
      refine ⟨by rw [bcells_len, hlen, Nat.mul_one], some a, cap, rfl, hl, hm, fun h0 => ?_⟩
      have h00 := hcell 0 (by omega)
      have hp := plain_addr h00
      have h01 := h00
      rw [hp, add_plain] at h01
      refine ⟨a.block, a.off, by rw [← hp], lt_of_cell h01, fun j u hu => ?_⟩
      have hj : j < len := by have := (List.getElem?_eq_some_iff.1 hu).1; rw [bcells_len, hlen] at this; exact this
      have hc := hcell j (by omega)
      rw [hp, add_plain] at hc
      rw [hc, ← hu]
      have hw := hwf zs[j] (List.getElem_mem (by omega))
      simp only [Lit.wf, IntKind.min, IntKind.max, IntKind.signed, IntKind.bits, Bool.and_eq_true, decide_eq_true_eq] at hw
      have hb : 0 ≤ zs[j] ∧ zs[j] ≤ 255 := by simpa using hw
      have hz2 : zs.getD j 0 = zs[j] := by simp [List.getD, List.getElem?_eq_getElem (show j < zs.length by omega)]
      rw [hz2]
      have e : (bcells ((zs.take len).map fun n => UInt8.ofNat n.toNat))[j]? = some (.int .u8 ((UInt8.ofNat (zs[j]).toNat).toNat : Int)) := by
        simp [bcells, List.getElem?_take, hj, List.getElem?_eq_getElem (show j < zs.length by omega)]
      rw [e]
      have : ((UInt8.ofNat (zs[j]).toNat).toNat : Int) = zs[j] := by
        rw [UInt8.toNat_ofNat']
        omega
      rw [this]
    · rw [hlen]
      have := hn _ (by simp only [DataW.weights, Try.underlying30]; exact List.mem_cons_self)
      rw [bytes1] at this
      simp only [lits, List.length_map, List.length_take, List.length_drop] at this
      omega

theorem weights_all {P : Program} {e : TypeId} {d : DataW H} : ∀ {ds : List (DataW H)}, d ∈ ds → ∀ n ∈ d.weights P e, n ∈ DataW.weightsAll P e ds
  | x :: r, h, n, hn => by
    simp only [DataW.weightsAll, List.mem_append]
    rcases List.mem_cons.1 h with rfl | h
    · exact .inl hn
    · exact .inr (weights_all h n hn)

theorem entCells : Try.prog.cellsOf 32 = 4 := by kernel_rfl

/-- A slice of entries that came in. -/
theorem open_entries {v : Value} {d : DataW H} {ps : List MemPlace} (h : DataW.Trod enc Try.prog w 0 (fun _ => true) true 33 v d ps) (hv : ∃ a len cap, v = .slice a len cap)
    (hr : ∀ n ∈ d.weights Try.prog 33, n ≤ reachBytes) : ∃ es, EntsRd w (fun j => j < w.heap.size) v es ∧ Fits es := by
  obtain ⟨a0, l0, c0, rfl⟩ := hv
  obtain ⟨fuel, hf⟩ := h
  rcases open_slice_fields Try.underlying33 Try.underlying32 (by kernel_rfl) (by kernel_rfl) hf with ⟨hcs, hd⟩ | ⟨a, len, cap, m, D, Pl, hcs, _, hl, hm, hmm, hd, hi⟩
  · simp only [Value.cells] at hcs
    injection hcs with hv
    rw [hv]
    exact ⟨[], ⟨[], Rd.nil _ _ _, Els.nil _ _⟩, fun e h => by cases h⟩
  · simp only [Value.cells] at hcs
    injection hcs with hv
    rw [hv]
    simp only [if_true] at hmm
    subst hmm
    injection hd with hd1 _
    have key : ∀ i, i < len → ∃ (e : Ent) (s : Value), w.cell? (a.add (i * 4)) = some (.int .u64 e.t) ∧ w.cell? (a.add (i * 4 + 1)) = some (.int .u32 e.c) ∧ w.cell? (a.add (i * 4 + 2)) = some (.int .u64 e.r) ∧ w.cell? (a.add (i * 4 + 3)) = some s ∧
        CmdRd w (fun j => j < w.heap.size) s e.cmd ∧ e.cmd.length ≤ 140737488355328 := by
      intro i hlt
      obtain ⟨ys, n, hDi, _, _, hfld⟩ := hi i (by omega)
      obtain ⟨v0, y0, c0, g0, t0⟩ := hfld 0 _ rfl
      obtain ⟨v1, y1, c1, g1, t1⟩ := hfld 1 _ rfl
      obtain ⟨v2, y2, c2, g2, t2⟩ := hfld 2 _ rfl
      obtain ⟨v3, y3, c3, g3, t3⟩ := hfld 3 _ rfl
      obtain ⟨x0, e0, _, _⟩ := DataW.trod_int Try.underlying28 t0
      obtain ⟨x1, e1, _, _⟩ := DataW.trod_int Try.underlying29 t1
      obtain ⟨x2, e2, _, _⟩ := DataW.trod_int Try.underlying28 t2
      injection e0 with e0
      injection e1 with e1
      injection e2 with e2
      subst e0; subst e1; subst e2
      obtain ⟨bs, hb, hbl⟩ := open_bytes t3
      refine ⟨⟨x0, x1, x2, bs⟩, v3, c0, c1, c2, c3, hb, ?_⟩
      refine Nat.le_trans (hbl reachBytes fun x hx => hr x ?_) (by decide)
      rw [hd1]
      simp only [DataW.weights, Try.underlying33]
      refine List.mem_cons_of_mem _ (List.mem_append.2 (.inl (weights_all (d := D i) (List.mem_map.2 ⟨i, List.mem_range.2 hlt, rfl⟩) x ?_)))
      rw [hDi]
      simp only [DataW.weights, Try.underlying32]
      exact DataW.weights_mem_each (j := 3) rfl (by rw [List.getElem?_map, g3]; rfl) x hx
    have build : ∀ k, k ≤ len → ∃ (cs : List Value) (es : List Ent), es.length = k ∧ Els (EntR (CmdRd w (fun j => j < w.heap.size))) 4 cs es ∧ (∀ j u, cs[j]? = some u → w.cell? (a.add j) = some u) ∧ Fits es := by
      intro k
      induction k with
      | zero => exact fun _ => ⟨[], [], rfl, Els.nil _ _, fun j u h => by simp at h, fun e h => by cases h⟩
      | succ k ih =>
        intro hk
        obtain ⟨cs, es, hlen, hE, hc, hF⟩ := ih (by omega)
        obtain ⟨e, s, q0, q1, q2, q3, hq, hb⟩ := key k (by omega)
        refine ⟨cs ++ [.int .u64 e.t, .int .u32 e.c, .int .u64 e.r, s], es ++ [e], by simp [hlen], Els.snoc hE rfl ⟨s, rfl, hq⟩, ?_, ?_⟩
        · intro j u hu
          have hcl : cs.length = k * 4 := by rw [hE.1, hlen]
          rcases Nat.lt_or_ge j cs.length with hj | hj
          · rw [List.getElem?_append_left hj] at hu
            exact hc j u hu
          · rw [List.getElem?_append_right hj] at hu
            obtain ⟨i, rfl⟩ : ∃ i, j = k * 4 + i := ⟨j - k * 4, by omega⟩
            rw [hcl, Nat.add_sub_cancel_left] at hu
            match i, hu with
            | 0, hu => simp at hu; subst hu; exact q0
            | 1, hu => simp at hu; subst hu; exact q1
            | 2, hu => simp at hu; subst hu; exact q2
            | 3, hu => simp at hu; subst hu; exact q3
            | i + 4, hu => simp at hu
        · intro x hx
          rcases List.mem_append.1 hx with hx | hx
          · exact hF x hx
          · simp at hx; subst hx; exact hb
    obtain ⟨cs, es, hlen, hE, hc, hF⟩ := build len (Nat.le_refl _)
    refine ⟨es, ⟨cs, ⟨hE.1, some a, m, by rw [hlen], by omega, hm, fun h0 => ?_⟩, hE⟩, hF⟩
    obtain ⟨e, s, q0, _⟩ := key 0 (by omega)
    have hp := plain_addr (by simpa using q0)
    have h01 := q0
    rw [hp, add_plain] at h01
    refine ⟨a.block, a.off, by rw [← hp], lt_of_cell h01, fun j u hu => ?_⟩
    have := hc j u hu
    rw [hp, add_plain] at this
    exact this
end

/-- A type whose data a row may read. -/
def CanRead (t : TypeId) : Prop := Try.prog.readableRec t = true ∧ t < Try.prog.types.size

/-- ARGS of a law's row: what was there reads as it did. -/
theorem args_kept {H : Type} {enc : TypeId × Value → H} {W W' : World} (ts : List TypeId) : ∀ {vs : List Value} {ds : List (DataW H)} {ps : List MemPlace}, (∀ t ∈ ts, CanRead t) →
    DataW.TrodAll enc Try.prog W 0 (fun _ => true) true ts vs ds ps → Below W.heap.size W W' → (∀ x ∈ ps, x.block < W.heap.size) → DataW.TrodAll enc Try.prog W' 0 (fun b => decide (b < W.heap.size)) true ts vs ds ps := by
  induction ts with
  | nil =>
    intro vs ds ps _ h _ _
    obtain ⟨rfl, rfl, rfl⟩ := trodAll_nil h
    exact trodAll_mk0
  | cons t ts ih =>
    intro vs ds ps hr h hb hlt
    obtain ⟨v, vs', d, ds', p, q, rfl, rfl, rfl, h1, h2⟩ := trodAll_cons h
    exact trodAll_cons_mk (Below.trod laidOut (hr t List.mem_cons_self).1 (hr t List.mem_cons_self).2 h1 hb fun x hx => hlt x (List.mem_append.2 (.inl hx)))
      (ih (fun u hu => hr u (List.mem_cons_of_mem _ hu)) h2 hb fun x hx => hlt x (List.mem_append.2 (.inr hx)))
end Go.Proofs.Ytgmekodfkhihiaa
