/-
  ChangeKeeps: what is in memory through its walk.
-/
import Derived.Test.YtgmekodfkhihiaaKeepsL22
import Derived.Test.YtgmekodfkhihiaaOrderS22
import Derived.LoopTactic
import Derived.Laws.MakeOwn
namespace Go.Proofs.Ytgmekodfkhihiaa
open Go.RowKit Go.Maps
set_option linter.unusedSimpArgs false
set_option linter.unusedVariables false

def u8s (ls : List Int) : Array Value := (ls.map fun x => Value.int .u8 x).toArray
structure B7 (ls : List Int) : Prop where
  len : ls.length = 7
  b : ∀ x ∈ ls, 0 ≤ x ∧ x < 256
theorem u8s_at {w : World} {b i : Nat} {t : TypeId} {ls : List Int} (h : Blk w b t (u8s ls)) (hl : B7 ls) (hi : i < 7) : w.cell? ⟨b, i, none⟩ = some (.int .u8 (ls.getD i 0)) := by
  rw [h.cell i]
  have := hl.len
  simp [u8s, List.getD, List.getElem?_eq_getElem (show i < ls.length by omega)]
theorem B7.at {ls : List Int} (hl : B7 ls) {i : Nat} (hi : i < 7) : 0 ≤ ls.getD i 0 ∧ ls.getD i 0 < 256 := by
  have := hl.len
  have e : ls.getD i 0 = ls[i] := by simp [List.getD, List.getElem?_eq_getElem (show i < ls.length by omega)]
  rw [e]
  exact hl.b _ (List.getElem_mem _)
def z4 : List Value := [.int .u64 0, .int .u32 0, .int .u64 0, .slice none 0 0]
/-- New entries, all zero. -/
theorem made_own {w : World} {base : Nat} (hb : base ≤ w.heap.size) {m : Nat} (hm : m ≤ 2) {cs : Array Value} (hc : cs = madeCells z4.toArray (m * 4)) :
    EntsOwn (w.alloc (.cells cs 32)) base (.slice (some ⟨w.heap.size, 0, none⟩) m m) (List.replicate m zent) := by
  subst hc
  have hE : Els (EntR (CmdOwn (w.alloc (.cells (madeCells z4.toArray (m * 4)) 32)) base)) 4 (madeCells z4.toArray (m * 4)).toList (List.replicate m zent) := by
    have hz : EntR (CmdOwn (w.alloc (.cells (madeCells z4.toArray (m * 4)) 32)) base) z4 zent := ⟨_, rfl, World.ownsRow_nil _ _ _ _⟩
    have : m = 0 ∨ m = 1 ∨ m = 2 := by omega
    rcases this with rfl | rfl | rfl
    · exact (show (madeCells z4.toArray (0 * 4)).toList = [] from by kernel_rfl) ▸ Els.nil _ _
    · have e : (madeCells z4.toArray (1 * 4)).toList = [] ++ z4 := by kernel_rfl
      have := (Els.nil _ 4).snoc rfl hz
      rw [← e] at this
      exact this
    · have e : (madeCells z4.toArray (2 * 4)).toList = [] ++ z4 ++ z4 := by kernel_rfl
      have := ((Els.nil _ 4).snoc rfl hz).snoc rfl hz
      rw [← e] at this
      exact this
  refine ⟨_, ?_, hE⟩
  have hsz : (madeCells z4.toArray (m * 4)).size = m * 4 := by simp [madeCells]
  refine ⟨by simp [hsz], .inr ⟨w.heap.size, m, madeCells z4.toArray (m * 4), by simp, hb, heap_alloc_new w _, by simp, by unfold maxLen; omega, hsz, ?_⟩⟩
  rw [List.length_replicate]
  exact List.take_of_length_le (by simp [hsz])

theorem make_ents {m : Nat} (hm : m ≤ 2) (W : World) :
    (Instr.makeSlice 33 (.int .i64 (m : Int)) (.int .i64 (m : Int))).run Try.prog W = .ok (.slice (some ⟨W.heap.size, 0, none⟩) m m) (W.alloc (.cells (madeCells z4.toArray (m * 4)) 32)) := by
  obtain ⟨i0, hi, hz0, hz1, hz2⟩ := info_parts infoE
  have h := run_make (P := Try.prog) W 33 32 i0 _ Try.underlying33 hi hz0 .i64 .i64 (m : Int) (m : Int) (by omega) (by omega) (by rw [hz2]; omega) (by omega)
  rw [hz1] at h
  simp only [Int.toNat_natCast] at h
  exact h

theorem moreE_succ (k : Nat) : zent :: zent :: markE :: moreE (k + 1) = (zent :: zent :: markE :: moreE k) ++ [⟨0, 0, (k : Int), []⟩] := by simp [moreE, List.range_succ]
theorem moreE_len (k : Nat) : (zent :: zent :: markE :: moreE k).length = k + 3 := by simp [moreE]
def made2 : Array Value := madeCells z4.toArray (2 * 4)
theorem make_two (W : World) : (Instr.makeSlice 33 (.int .i64 2) (.int .i64 2)).run Try.prog W = .ok (.slice (some ⟨W.heap.size, 0, none⟩) 2 2) (W.alloc (.cells made2 32)) := make_ents (m := 2) (by decide) W
theorem third_of {w : World} {base n c : Nat} {p : Option Addr} {a b e : Ent} {rest es : List Ent} (h : EntsOwn w base (.slice p n c) es) (he : es = a :: b :: e :: rest) :
    ∃ g s, p = some ⟨g, 0, none⟩ ∧ n = rest.length + 3 ∧ n ≤ c ∧ w.cell? ⟨g, 8, none⟩ = some (.int .u64 e.t) ∧ w.cell? ⟨g, 9, none⟩ = some (.int .u32 e.c) ∧ w.cell? ⟨g, 10, none⟩ = some (.int .u64 e.r) ∧ w.cell? ⟨g, 11, none⟩ = some s ∧ CmdOwn w base s e.cmd := by
  obtain ⟨cs, ho, hE⟩ := h
  obtain ⟨hl, hf⟩ := id ho
  rcases hf with ⟨hv, h0⟩ | ⟨g, cap, cur, hv, hb, hh, hn, -, hcur, htake⟩
  · rw [he] at h0
    simp at h0
  · injection hv with h1 h2 h3
    subst h1; subst h2; subst h3
    have hcells := ho.cells (g := g) rfl
    obtain ⟨s, hs, hq⟩ := hE.2 2 e (by rw [he]; rfl)
    have hcell : ∀ j u, cs[j]? = some u → w.cell? ⟨g, 0 + j, none⟩ = some u := fun j u hu => by
      have := hcells j u hu
      rw [show (⟨g, 0, none⟩ : Addr).add j = ⟨g, 0 + j, none⟩ from by unfold Addr.add; split <;> simp_all] at this
      exact this
    obtain ⟨e0, e1, e2, e3⟩ := cells4 hcell hs
    exact ⟨g, s, rfl, by rw [he]; rfl, by omega, by simpa using e0, by simpa using e1, by simpa using e2, by simpa using e3, hq⟩
/-- Through the first loop. -/
structure KS (w0 W : World) (ls ms : List Int) (n : Int) (mk pk ca va ga B C : Nat) (ps : List Pk) : Prop where
  bl : Below w0.heap.size w0 W
  kl : Blk W w0.heap.size 22 (u8s ls)
  km : Blk W (w0.heap.size + 1) 22 (u8s ms)
  mr : Blk W mk 32 #[.int .u64 0, .int .u32 7, .int .u64 77, .slice none 0 0]
  kp : ∃ pcs, Blk W pk 36 pcs.toArray ∧ PksRd W (fun j => B ≤ j ∧ j < C) pcs ps
  c : ChAt W (fun _ => False) ca va ga n 0 9 no7 no7 (List.replicate 7 noPk)
  lt : (mk < B ∧ pk < B ∧ ca < B) ∧ (va < B ∧ ga < B) ∧ B ≤ C ∧ C ≤ W.heap.size
  lo : w0.heap.size + 2 ≤ ca ∧ w0.heap.size + 2 ≤ ga ∧ w0.heap.size + 2 ≤ mk ∧ w0.heap.size + 2 ≤ pk
  ne : (pk ≠ mk ∧ pk ≠ ca) ∧ (pk ≠ va ∧ pk ≠ ga)
  len : ps.length = 7
section
variable {w0 W W' : World} {ls ms : List Int} {n : Int} {mk pk ca va ga B C : Nat} {ps : List Pk}
theorem KS.ext {M : Nat → Prop} (H : KS w0 W ls ms n mk pk ca va ga B C ps) (hb : Ext M W W') (hM : ∀ j, M j → C ≤ j) : KS w0 W' ls ms n mk pk ca va ga B C ps := by
  obtain ⟨pcs, hB, hP⟩ := H.kp
  have hz := hb.size
  have hlt := H.lt
  have hlo := H.lo
  have hn : ∀ j, j < C → ¬ M j := fun j hj hm => by have := hM j hm; omega
  have hw : w0.heap.size + 1 < C := by omega
  exact ⟨Ext.from H.bl hb (fun j hj => by have := hM j hj; omega), H.kl.ext hb (hn _ (by omega)), H.km.ext hb (hn _ hw), H.mr.ext hb (hn _ (by omega)), ⟨pcs, hB.ext hb (hn _ (by omega)), hP.keep (fun k hk hS => hb.block k hk (hn _ hS.2)) (fun k h _ => h)⟩, H.c.ext hb (fun _ h => h.elim) (hn _ (by omega)) (hn _ (by omega)) (hn _ (by omega)), ⟨hlt.1, hlt.2.1, hlt.2.2.1, by omega⟩, H.lo, H.ne, H.len⟩
theorem KS.below (H : KS w0 W ls ms n mk pk ca va ga B C ps) (hb : Below W.heap.size W W') : KS w0 W' ls ms n mk pk ca va ga B C ps :=
  H.ext (Ext.of_below (fun _ => False) hb) (fun _ h => h.elim)
theorem KS.store (H : KS w0 W ls ms n mk pk ca va ga B C ps) {i : Nat} (hi : i < 7) {l b c : Int} {s : Value} {es : List Ent} (hs : EntsOwn W C s es) {W' : World}
    (hW : W' = ((((W.setCell ⟨pk, i * 4, none⟩ (.int .u64 l)).setCell ⟨pk, i * 4 + 1, none⟩ (.int .u64 b)).setCell ⟨pk, i * 4 + 2, none⟩ (.int .u64 c)).setCell ⟨pk, i * 4 + 3, none⟩ s)) :
    KS w0 W' ls ms n mk pk ca va ga B W'.heap.size (ps.set i ⟨l, b, c, es⟩) := by
  subst hW
  obtain ⟨pcs, hB, hP⟩ := H.kp
  have hlt := H.lt
  have hlo2 := H.lo
  have hne := H.ne
  have hE : Ext (fun j => j = pk) W ((((W.setCell ⟨pk, i * 4, none⟩ (.int .u64 l)).setCell ⟨pk, i * 4 + 1, none⟩ (.int .u64 b)).setCell ⟨pk, i * 4 + 2, none⟩ (.int .u64 c)).setCell ⟨pk, i * 4 + 3, none⟩ s) := (Ext.refl (fun j => j = pk) W).sets4 rfl
  have hz := hE.size
  refine ⟨Ext.from H.bl hE (fun j hj => by omega), H.kl.ext hE (by omega), H.km.ext hE (by omega), H.mr.ext hE (by omega), ⟨set4 pcs i (.int .u64 l) (.int .u64 b) (.int .u64 c) s, ?_, ?_⟩, H.c.ext hE (fun _ h => h.elim) (by omega) (by omega) (by omega), ⟨hlt.1, hlt.2.1, by omega, Nat.le_refl _⟩, H.lo, H.ne, by rw [List.length_set]; exact H.len⟩
  · have := (((hB.set_ (i * 4) (.int .u64 l)).set_ (i * 4 + 1) (.int .u64 b)).set_ (i * 4 + 2) (.int .u64 c)).set_ (i * 4 + 3) s
    simpa [set4] using this
  · refine Els.set4_ (hP.keep (fun j hj hSj => hE.block j hj (by omega)) (fun j hSj _ => ⟨hSj.1, by omega⟩)) (by rw [H.len]; exact hi) ⟨s, rfl, ?_⟩
    exact hs.rd.keep (fun j hj hSj => hE.block j hj (fun e => by have := hSj.1; omega)) (fun j hSj _ => ⟨by have := hSj.1; omega, by have := hSj.2; omega⟩)
theorem KS.cells (H : KS w0 W ls ms n mk pk ca va ga B C ps) {i : Nat} (hi : i < 7) : ∃ u0 u1 u2 u3, W.cell? ⟨pk, i * 4, none⟩ = some u0 ∧ W.cell? ⟨pk, i * 4 + 1, none⟩ = some u1 ∧ W.cell? ⟨pk, i * 4 + 2, none⟩ = some u2 ∧ W.cell? ⟨pk, i * 4 + 3, none⟩ = some u3 ∧ (∀ j, W.frozen? ⟨pk, j, none⟩ = false) ∧ pk < W.heap.size := by
  obtain ⟨pcs, hB, hP⟩ := H.kp
  have hl : pcs.length = 28 := by rw [hP.1, H.len]
  have h : ∀ j (hj : j < 28), W.cell? ⟨pk, j, none⟩ = some (pcs[j]'(by omega)) := fun j hj => by
    rw [hB.cell j]
    simp [List.getElem?_eq_getElem (show j < pcs.length by omega)]
  exact ⟨_, _, _, _, h (i * 4) (by omega), h (i * 4 + 1) (by omega), h (i * 4 + 2) (by omega), h (i * 4 + 3) (by omega), fun j => hB.frozen j, hB.lt⟩
/-- The pack that is made. -/
structure PS (w0 W : World) (ls ms : List Int) (n : Int) (mk pk ca va ga B C : Nat) (ps : List Pk) (pb : Nat) (l : Int) (es : List Ent) (nn : Nat) (p : Option Addr) (c : Nat) : Prop where
  s : KS w0 W ls ms n mk pk ca va ga B C ps
  k : Blk W pb 35 #[.int .u64 l, .int .u64 8, .int .u64 8, .slice p nn c]
  e : EntsOwn W C (.slice p nn c) es
  b : C ≤ pb
  len : es.length = nn
variable {pb nn nn' : Nat} {l : Int} {es es' : List Ent} {p p' : Option Addr} {c c' : Nat}
theorem PS.below (H : PS w0 W ls ms n mk pk ca va ga B C ps pb l es nn p c) (hb : Below W.heap.size W W') : PS w0 W' ls ms n mk pk ca va ga B C ps pb l es nn p c :=
  ⟨H.s.below hb, H.k.below hb, H.e.below hb, H.b, H.len⟩
theorem PS.kept {v0 : Value} {n0 : Nat} {cs0 : List Value} (H : PS w0 W ls ms n mk pk ca va ga B C ps pb l es nn p c) (ho : W.ownsRow C 32 4 v0 n0 cs0) (hg : W.grownBy W' v0.ownBlock) : Blk W' pb 35 #[.int .u64 l, .int .u64 8, .int .u64 8, .slice p nn c] ∧ KS w0 W' ls ms n mk pk ca va ga B C ps := by
  refine ⟨H.k.grown hg (own_ne ho H.k (by decide)).symm, ?_⟩
  have hE : Ext (fun j => C ≤ j) W W' := ⟨hg.os, hg.tape, hg.output, hg.size, fun k hk hn => hg.block k hk (fun e => hn ((ho.lt k e.symm).1))⟩
  exact H.s.ext hE (fun _ h => h)
theorem PS.put {v0 : Value} {n0 : Nat} {cs0 : List Value} (H : PS w0 W ls ms n mk pk ca va ga B C ps pb l es nn p c) (ho : W.ownsRow C 32 4 v0 n0 cs0) (hg : W.grownBy W' v0.ownBlock) (he : EntsOwn W' C (.slice p' nn' c') es') (hl : es'.length = nn') :
    PS w0 (W'.setCell ⟨pb, 3, none⟩ (.slice p' nn' c')) ls ms n mk pk ca va ga B C ps pb l es' nn' p' c' := by
  obtain ⟨hk, hs⟩ := H.kept ho hg
  have hE : Ext (fun j => C ≤ j) W' (W'.setCell ⟨pb, 3, none⟩ (.slice p' nn' c')) := (Ext.refl _ W').setCell (p := ⟨pb, 3, none⟩) (.inl H.b) _
  exact ⟨hs.ext hE (fun _ h => h), by simpa using hk.set_ 3 (.slice p' nn' c'), he.set_ hk (by decide) (by decide) 3 _, H.b, hl⟩
/-- Through the second loop. -/
structure HS (w0 W : World) (S : Nat → Prop) (n : Int) (mk pk ca va ga B C : Nat) (ps : List Pk) (h : List Bool) (pd : List Pk) : Prop where
  bl : Below w0.heap.size w0 W
  mr : Blk W mk 32 #[.int .u64 0, .int .u32 7, .int .u64 77, .slice none 0 0]
  kp : ∃ pcs, Blk W pk 36 pcs.toArray ∧ PksRd W (fun j => B ≤ j ∧ j < C) pcs ps
  c : ChAt W S ca va ga n 0 9 no7 h pd
  s : ∀ j, S j → j < W.heap.size
  lt : (mk < B ∧ pk < B ∧ ca < B) ∧ (va < B ∧ ga < B) ∧ B ≤ C ∧ C ≤ W.heap.size
  lo : w0.heap.size + 2 ≤ ca ∧ w0.heap.size + 2 ≤ ga ∧ w0.heap.size + 2 ≤ mk ∧ w0.heap.size + 2 ≤ pk
  ne : ((pk ≠ mk ∧ pk ≠ ca) ∧ (pk ≠ va ∧ pk ≠ ga)) ∧ mk ≠ ca ∧ mk ≠ ga
  len : ps.length = 7
variable {S S' : Nat → Prop} {h h' : List Bool} {pd pd' : List Pk}
theorem KS.hand (H : KS w0 W ls ms n mk pk ca va ga B C ps) : HS w0 W (fun _ => False) n mk pk ca va ga B C ps no7 (List.replicate 7 noPk) := by
  have h1 : mk ≠ ca := H.mr.ne_ (H.c.k.choose_spec.1) (by decide)
  have h2 : mk ≠ ga := by
    rintro rfl
    obtain ⟨⟨D, ⟨es, clock, hb, -⟩, -⟩, -⟩ := H.c.va.m
    have := H.mr
    unfold Blk at this
    rw [hb] at this
    cases this
  exact ⟨H.bl, H.mr, H.kp, H.c, fun _ h => h.elim, H.lt, H.lo, ⟨H.ne, h1, h2⟩, H.len⟩
theorem HS.below (H : HS w0 W S n mk pk ca va ga B C ps h pd) (hb : Below W.heap.size W W') : HS w0 W' S n mk pk ca va ga B C ps h pd := by
  obtain ⟨pcs, hB, hP⟩ := H.kp
  have hz := hb.size
  have hlt := H.lt
  exact ⟨H.bl.trans (hb.mono H.bl.size), H.mr.below hb, ⟨pcs, hB.below hb, hP.keep (fun k hk _ => hb.block k hk) (fun k h _ => h)⟩, H.c.below hb, fun j hj => Nat.lt_of_lt_of_le (H.s j hj) hz, ⟨hlt.1, hlt.2.1, hlt.2.2.1, by omega⟩, H.lo, H.ne, H.len⟩
theorem HS.step (H : HS w0 W S n mk pk ca va ga B C ps h pd) (hc : ChAt W' S' ca va ga n 0 9 no7 h' pd') (hE : Ext (fun j => j = ca ∨ j = ga) W W') (hS : ∀ j, S' j → j < W'.heap.size) : HS w0 W' S' n mk pk ca va ga B C ps h' pd' := by
  obtain ⟨pcs, hB, hP⟩ := H.kp
  have hz := hE.size
  have hlt := H.lt
  have hlo := H.lo
  have hne := H.ne
  exact ⟨Ext.from H.bl hE (fun j hj => by omega), H.mr.ext hE (by omega), ⟨pcs, hB.ext hE (by omega), hP.keep (fun k hk hS => hE.block k hk (by omega)) (fun k h _ => h)⟩, hc, hS, ⟨hlt.1, hlt.2.1, hlt.2.2.1, by omega⟩, H.lo, H.ne, H.len⟩
theorem HS.pack (H : HS w0 W S n mk pk ca va ga B C ps h pd) {i : Nat} (hi : i < 7) {p : Pk} (hp : ps.getD i noPk = p) : ∃ sp sc, W.cell? ⟨pk, i * 4, none⟩ = some (.int .u64 p.l) ∧ W.cell? ⟨pk, i * 4 + 1, none⟩ = some (.int .u64 p.b) ∧ W.cell? ⟨pk, i * 4 + 2, none⟩ = some (.int .u64 p.c) ∧ W.cell? ⟨pk, i * 4 + 3, none⟩ = some (.slice sp p.es.length sc) ∧ EntsRd W (fun j => B ≤ j ∧ j < C) (.slice sp p.es.length sc) p.es ∧ pk < W.heap.size := by
  obtain ⟨pcs, hB, hP⟩ := H.kp
  have hil : i < ps.length := by rw [H.len]; exact hi
  have e : ps.getD i noPk = ps[i] := by simp [List.getD, List.getElem?_eq_getElem hil]
  rw [← hp, e]
  obtain ⟨s, hs, hq⟩ := hP.2 i ps[i] (List.getElem?_eq_getElem hil)
  have hcell : ∀ j u, pcs[j]? = some u → W.cell? ⟨pk, 0 + j, none⟩ = some u := fun j u hu => by
    rw [Nat.zero_add, hB.cell j]
    simpa using hu
  obtain ⟨e0, e1, e2, e3⟩ := cells4 hcell hs
  simp only [Nat.zero_add] at e0 e1 e2 e3
  obtain ⟨cs', hr', -⟩ := id hq
  obtain ⟨sp, sc, rfl⟩ := Rd.slice hr'
  exact ⟨sp, sc, e0, e1, e2, e3, hq, hB.lt⟩
end
end Go.Proofs.Ytgmekodfkhihiaa
