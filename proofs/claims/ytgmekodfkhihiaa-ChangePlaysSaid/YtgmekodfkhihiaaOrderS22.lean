/-
  ChangeOrder: the walk. Condition: the packs can be read. (Printed by wip/gen_order22.py.)
-/
import Derived.Test.YtgmekodfkhihiaaOrderL22
import Derived.LoopTactic
namespace Go.Proofs.Ytgmekodfkhihiaa
open Go.RowKit Go.Maps
set_option linter.unusedSimpArgs false
set_option linter.unusedVariables false

/-- Both changes through the walk. -/
structure OS (w0 W : World) (T Sa Sb : Nat → Prop) (ca va ga cb vb gb : Nat) (v : Int) (ta ha hb : List Bool) (pa pb : List Pk) (sv : Value) (L : List Pk) : Prop where
  bl : Below w0.heap.size w0 W
  r : PacksRd W T sv L
  a : ChAt W Sa ca va ga 7 3 v ta ha pa
  b : ChAt W Sb cb vb gb 7 3 v no7 hb pb
  g : w0.heap.size ≤ ca ∧ w0.heap.size ≤ ga ∧ w0.heap.size ≤ cb ∧ w0.heap.size ≤ gb
  f : (ca ≠ cb ∧ ca ≠ gb ∧ va ≠ cb ∧ va ≠ gb ∧ ga ≠ cb ∧ ga ≠ gb) ∧ (vb ≠ ca ∧ vb ≠ ga)
  na : ¬ Sa cb ∧ ¬ Sa gb
  nb : ¬ Sb ca ∧ ¬ Sb ga
  sa : ∀ j, Sa j → j < W.heap.size
  sb : ∀ j, Sb j → j < W.heap.size
  T : ∀ j, T j → j < w0.heap.size
theorem PacksRd.keep {w w' : World} {S S' : Nat → Prop} {v : Value} {L : List Pk} (h : PacksRd w S v L) (hk : ∀ k, k < w.heap.size → S k → w'.heap[k]? = w.heap[k]?) (hs : ∀ k, S k → k < w.heap.size → S' k) : PacksRd w' S' v L := by
  obtain ⟨cs, hr, hP⟩ := h
  exact ⟨cs, hr.keep hk hs (by decide), hP.keep hk hs⟩
section
variable {w0 W W' : World} {T Sa Sb Sa' Sb' : Nat → Prop} {ca va ga cb vb gb : Nat} {v : Int} {ta ha hb ta' ha' hb' : List Bool} {pa pb pa' pb' : List Pk} {sv : Value} {L : List Pk}
theorem OS.below (H : OS w0 W T Sa Sb ca va ga cb vb gb v ta ha hb pa pb sv L) (h : Below W.heap.size W W') : OS w0 W' T Sa Sb ca va ga cb vb gb v ta ha hb pa pb sv L :=
  ⟨H.bl.trans (h.mono H.bl.size), H.r.keep (fun k hk _ => h.block k hk) (fun _ h _ => h), H.a.below h, H.b.below h, H.g, H.f, H.na, H.nb, fun j hj => Nat.lt_of_lt_of_le (H.sa j hj) h.size, fun j hj => Nat.lt_of_lt_of_le (H.sb j hj) h.size, H.T⟩
theorem OS.readA (H : OS w0 W T Sa Sb ca va ga cb vb gb v ta ha hb pa pb sv L) (hE : Ext (fun j => j = ca ∨ j = ga) W W') : PacksRd W' T sv L :=
  H.r.keep (fun k hk hT => hE.block k hk (fun e => by have := H.T k hT; have := H.g; omega)) (fun _ h _ => h)
theorem OS.readB (H : OS w0 W T Sa Sb ca va ga cb vb gb v ta ha hb pa pb sv L) (hE : Ext (fun j => j = cb ∨ j = gb) W W') : PacksRd W' T sv L :=
  H.r.keep (fun k hk hT => hE.block k hk (fun e => by have := H.T k hT; have := H.g; omega)) (fun _ h _ => h)
theorem OS.stepA (H : OS w0 W T Sa Sb ca va ga cb vb gb v ta ha hb pa pb sv L) (hc : ChAt W' Sa' ca va ga 7 3 v ta' ha' pa') (hE : Ext (fun j => j = ca ∨ j = ga) W W') (hS : ∀ j, Sa' j → Sa j ∨ W.heap.size ≤ j) (hz : ∀ j, Sa' j → j < W'.heap.size) : OS w0 W' T Sa' Sb ca va ga cb vb gb v ta' ha' hb pa' pb sv L := by
  have hlt := H.b.lt
  refine ⟨Ext.from H.bl hE (fun j hj => by have := H.g; omega), H.readA hE, hc, H.b.ext hE (fun j hj e => e.elim (fun e => H.nb.1 (e ▸ hj)) (fun e => H.nb.2 (e ▸ hj))) (fun e => by have := H.f; omega) (fun e => by have := H.f; omega) (fun e => by have := H.f; omega), H.g, H.f, ⟨fun h => ?_, fun h => ?_⟩, H.nb, hz, fun j hj => Nat.lt_of_lt_of_le (H.sb j hj) hE.size, H.T⟩
  · rcases hS _ h with h | h
    · exact H.na.1 h
    · omega
  · rcases hS _ h with h | h
    · exact H.na.2 h
    · omega
theorem OS.stepB (H : OS w0 W T Sa Sb ca va ga cb vb gb v ta ha hb pa pb sv L) (hc : ChAt W' Sb' cb vb gb 7 3 v no7 hb' pb') (hE : Ext (fun j => j = cb ∨ j = gb) W W') (hS : ∀ j, Sb' j → Sb j ∨ W.heap.size ≤ j) (hz : ∀ j, Sb' j → j < W'.heap.size) : OS w0 W' T Sa Sb' ca va ga cb vb gb v ta ha hb' pa pb' sv L := by
  have hlt := H.a.lt
  refine ⟨Ext.from H.bl hE (fun j hj => by have := H.g; omega), H.readB hE, H.a.ext hE (fun j hj e => e.elim (fun e => H.na.1 (e ▸ hj)) (fun e => H.na.2 (e ▸ hj))) (fun e => by have := H.f; omega) (fun e => by have := H.f; omega) (fun e => by have := H.f; omega), hc, H.g, H.f, H.na, ⟨fun h => ?_, fun h => ?_⟩, fun j hj => Nat.lt_of_lt_of_le (H.sa j hj) hE.size, hz, H.T⟩
  · rcases hS _ h with h | h
    · exact H.nb.1 h
    · omega
  · rcases hS _ h with h | h
    · exact H.nb.2 h
    · omega
theorem ext_r {cb g : Nat} (h : Ext (fun j => j = g) W W') : Ext (fun j => j = cb ∨ j = g) W W' := h.mono (fun _ _ e => .inr e)
theorem more_or {S : Nat → Prop} : ∀ j, More S W W' j → S j ∨ W.heap.size ≤ j := fun j hj => hj.elim (fun h => .inl h.1) (fun h => .inr h.1)
theorem more_sz {S : Nat → Prop} (hz : W.heap.size ≤ W'.heap.size) : ∀ j, More S W W' j → j < W'.heap.size := fun j hj => hj.elim (fun h => Nat.lt_of_lt_of_le h.2 hz) (fun h => h.2)
theorem packs_ptr {p : Option Addr} {d : Nat} (h : PacksRd W T (.slice p L.length d) L) (h0 : 0 < L.length) : ∃ bk off, p = some ⟨bk, off, none⟩ := by
  obtain ⟨cs, hr, -⟩ := h
  obtain ⟨b, off, he, -⟩ := Rd.addr hr h0
  exact ⟨b, off, he⟩
theorem packs_at {bk off d : Nat} (h : PacksRd W T (.slice (some ⟨bk, off, none⟩) L.length d) L) {j : Nat} {Pj : Pk} (hPj : L.getD j noPk = Pj) (hj : j < L.length) : ∃ sp sc, W.cell? ⟨bk, off + j * 4, none⟩ = some (.int .u64 Pj.l) ∧ W.cell? ⟨bk, off + j * 4 + 1, none⟩ = some (.int .u64 Pj.b) ∧
    W.cell? ⟨bk, off + j * 4 + 2, none⟩ = some (.int .u64 Pj.c) ∧ W.cell? ⟨bk, off + j * 4 + 3, none⟩ = some (.slice sp Pj.es.length sc) ∧ EntsRd W T (.slice sp Pj.es.length sc) Pj.es := by
  obtain ⟨cs, hr, hP⟩ := h
  obtain ⟨b, o, he, _, _, hcell⟩ := Rd.addr hr (by omega)
  injection he with he
  injection he with h1 h2 _
  subst h1; subst h2
  have e : L.getD j noPk = L[j] := by simp [List.getD, List.getElem?_eq_getElem hj]
  rw [← hPj, e]
  obtain ⟨s, hs, hq⟩ := hP.2 j L[j] (List.getElem?_eq_getElem hj)
  obtain ⟨e0, e1, e2, e3⟩ := cells4 hcell hs
  obtain ⟨cs', hr', -⟩ := id hq
  obtain ⟨sp, sc, rfl⟩ := Rd.slice hr'
  exact ⟨sp, sc, e0, e1, e2, e3, hq⟩
theorem pk_ok {j : Nat} {Pj : Pk} (hPj : L.getD j noPk = Pj) (h : PksOk L) : Fits Pj.es ∧ Pj.es.length ≤ 1152921504606846976 ∧ 0 ≤ Pj.b ∧ 0 ≤ Pj.c := by
  subst hPj
  rcases Nat.lt_or_ge j L.length with hj | hj
  · have e : L.getD j noPk = L[j] := by simp [List.getD, List.getElem?_eq_getElem hj]
    rw [e]
    exact h _ (List.getElem_mem hj)
  · rw [show L.getD j noPk = noPk from by simp [List.getD, List.getElem?_eq_none hj]]
    exact ⟨fun e h => (by cases h), by decide, by decide, by decide⟩
end
theorem ok73 : NumOk 7 3 := ⟨by omega, by omega, by omega⟩
theorem errM_t : errM true = 0 := rfl
theorem errM_f : errM false = 1 := rfl
theorem newT_0 (v : Int) : newT 0 v no7 = no7 := newT_no 0 v

end Go.Proofs.Ytgmekodfkhihiaa
