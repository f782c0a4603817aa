/-
  Change: what it is in memory; the contracts of none, View, New, Start.
-/
import Derived.Test.YtgmekodfkhihiaaVCopy
import Derived.Test.YtgmekodfkhihiaaPack22
import Derived.Deep.DeepCutAuto
namespace Go.Proofs.Ytgmekodfkhihiaa
open Go.RowKit Go.Maps
set_option linter.unusedSimpArgs false
set_option linter.unusedVariables false

/-- A pack's data. -/
structure Pk where
  l : Int
  b : Int
  c : Int
  es : List Ent
def noPk : Pk := ⟨0, 0, 0, []⟩
def PkR (w : World) (S : Nat → Prop) (c : List Value) (p : Pk) : Prop := ∃ s, c = [.int .u64 p.l, .int .u64 p.b, .int .u64 p.c, s] ∧ EntsRd w S s p.es
def PksRd (w : World) (S : Nat → Prop) (pcs : List Value) (ps : List Pk) : Prop := Els (PkR w S) 4 pcs ps
theorem PksRd.keep {w w' : World} {S S' : Nat → Prop} {pcs : List Value} {ps : List Pk} (h : PksRd w S pcs ps) (hk : ∀ k, k < w.heap.size → S k → w'.heap[k]? = w.heap[k]?) (hs : ∀ k, S k → k < w.heap.size → S' k) : PksRd w' S' pcs ps :=
  h.imp fun c p _ ⟨s, h1, h2⟩ => ⟨s, h1, h2.keep hk hs⟩

/-- The cells of a change. -/
def chc (n me v : Int) (vb : Nat) (pcs : List Value) : Array Value := (Value.int .i64 n :: Value.int .i64 me :: Value.int .u64 v :: Value.pointer (some ⟨vb, 0, none⟩) :: pcs).toArray
/-- A change at block cb; its votes at vb, their map g; what its packs lead to lies in S. -/
structure ChAt (w : World) (S : Nat → Prop) (cb vb g : Nat) (n me v : Int) (t h : List Bool) (ps : List Pk) : Prop where
  k : ∃ pcs, Blk w cb 75 (chc n me v vb pcs) ∧ PksRd w S pcs ps
  len : ps.length = 7
  va : VAt w vb g n v t h
  nS : ¬ S cb ∧ ¬ S vb ∧ ¬ S g
section
variable {w w' : World} {S S' : Nat → Prop} {cb vb g : Nat} {n me v : Int} {t h : List Bool} {ps : List Pk}
theorem ChAt.lt (H : ChAt w S cb vb g n me v t h ps) : cb < w.heap.size ∧ vb < w.heap.size ∧ g < w.heap.size := by
  obtain ⟨pcs, hB, -⟩ := H.k
  exact ⟨hB.lt, H.va.k.lt, H.va.m.lt_⟩
theorem ChAt.ne (H : ChAt w S cb vb g n me v t h ps) : cb ≠ vb ∧ cb ≠ g ∧ vb ≠ g := by
  obtain ⟨pcs, hB, -⟩ := H.k
  refine ⟨hB.ne_ H.va.k (by decide), ?_, H.va.ne⟩
  rintro rfl
  obtain ⟨⟨D, ⟨es, clock, hb, -⟩, -⟩, -⟩ := H.va.m
  unfold Blk at hB
  rw [hb] at hB
  cases hB
theorem ChAt.keep (H : ChAt w S cb vb g n me v t h ps) (hk : ∀ k, k < w.heap.size → S k → w'.heap[k]? = w.heap[k]?) (h1 : w'.heap[cb]? = w.heap[cb]?) (h2 : w'.heap[vb]? = w.heap[vb]?) (h3 : w'.heap[g]? = w.heap[g]?) : ChAt w' S cb vb g n me v t h ps := by
  obtain ⟨⟨pcs, hB, hP⟩, hl, hv, hS⟩ := H
  exact ⟨⟨pcs, h1.trans hB, hP.keep hk (fun _ h _ => h)⟩, hl, ⟨h2.trans hv.k, hv.m.kept h3⟩, hS⟩
theorem ChAt.below (H : ChAt w S cb vb g n me v t h ps) (hb : Below w.heap.size w w') : ChAt w' S cb vb g n me v t h ps :=
  H.keep (fun k hk _ => hb.block k hk) (hb.block _ H.lt.1) (hb.block _ H.lt.2.1) (hb.block _ H.lt.2.2)
theorem ChAt.ext {M : Nat → Prop} (H : ChAt w S cb vb g n me v t h ps) (hb : Ext M w w') (hM : ∀ j, S j → ¬ M j) (h1 : ¬ M cb) (h2 : ¬ M vb) (h3 : ¬ M g) : ChAt w' S cb vb g n me v t h ps :=
  H.keep (fun k hk hS => hb.block k hk (hM k hS)) (hb.block _ H.lt.1 h1) (hb.block _ H.lt.2.1 h2) (hb.block _ H.lt.2.2 h3)
theorem ChAt.weak (H : ChAt w S cb vb g n me v t h ps) (hs : ∀ k, S k → k < w.heap.size → S' k) (hn : ¬ S' cb ∧ ¬ S' vb ∧ ¬ S' g) : ChAt w S' cb vb g n me v t h ps := by
  obtain ⟨⟨pcs, hB, hP⟩, hl, hv, hS⟩ := H
  exact ⟨⟨pcs, hB, hP.keep (fun _ _ _ => rfl) hs⟩, hl, hv, hn⟩
theorem ChAt.cells (H : ChAt w S cb vb g n me v t h ps) : w.cell? ⟨cb, 0, none⟩ = some (.int .i64 n) ∧ w.cell? ⟨cb, 1, none⟩ = some (.int .i64 me) ∧ w.cell? ⟨cb, 2, none⟩ = some (.int .u64 v) ∧ w.cell? ⟨cb, 3, none⟩ = some (.pointer (some ⟨vb, 0, none⟩)) ∧
    (∀ i, w.frozen? ⟨cb, i, none⟩ = false) ∧ cb < w.heap.size := by
  obtain ⟨pcs, hB, -⟩ := H.k
  exact ⟨(hB.cell 0).trans rfl, (hB.cell 1).trans rfl, (hB.cell 2).trans rfl, (hB.cell 3).trans rfl, fun i => hB.frozen i, hB.lt⟩

theorem ch_none (H : ChAt w S cb vb g n me v t h ps) : Calls Try.prog 28 #[.pointer (some ⟨cb, 0, none⟩)] w fun x w' => x = .returned (.bool false) ∧ w = w' := by
  obtain ⟨a0, a1, a2, a3, -, hz⟩ := H.cells
  clear H
  go_enter Try.func28, Try.ntmps28
  go_wp2
  go_ret
  exact ⟨rfl, rfl⟩
theorem ch_View (H : ChAt w S cb vb g n me v t h ps) : Calls Try.prog 24 #[.pointer (some ⟨cb, 0, none⟩)] w fun x w' => x = .returned (.int .u64 v) ∧ w = w' := by
  have HH := Lib.hid H
  obtain ⟨a0, a1, a2, a3, -, hz⟩ := H.cells
  clear H
  go_enter Try.func24, Try.ntmps24
  go_wp2_with fail
  refine (ch_none HH.out).mono ?_
  rintro x _ ⟨rfl, rfl⟩
  go_wp2_with fail
  go_ret
  exact ⟨rfl, rfl⟩
end
def zpcs : List Value := [.int .u64 0, .int .u64 0, .int .u64 0, .slice none 0 0, .int .u64 0, .int .u64 0, .int .u64 0, .slice none 0 0, .int .u64 0, .int .u64 0, .int .u64 0, .slice none 0 0, .int .u64 0, .int .u64 0, .int .u64 0, .slice none 0 0, .int .u64 0, .int .u64 0, .int .u64 0, .slice none 0 0, .int .u64 0, .int .u64 0, .int .u64 0, .slice none 0 0, .int .u64 0, .int .u64 0, .int .u64 0, .slice none 0 0]
theorem zpks (w : World) (S : Nat → Prop) : PksRd w S zpcs (List.replicate 7 noPk) := by
  have h : PkR w S [.int .u64 0, .int .u64 0, .int .u64 0, .slice none 0 0] noPk := ⟨_, rfl, ⟨[], Rd.nil _ _ _, Els.nil _ _⟩⟩
  exact ((((((((Els.nil (PkR w S) 4).snoc rfl h).snoc rfl h).snoc rfl h).snoc rfl h).snoc rfl h).snoc rfl h).snoc rfl h)
/-- The numbers that a change may have. -/
structure NumOk (n me : Int) : Prop where
  nn : n = 1 ∨ n = 3 ∨ n = 5 ∨ n = 7
  m0 : 0 ≤ me
  m1 : me < n
set_option maxHeartbeats 3200000 in
set_option maxRecDepth 100000 in
theorem ch_New {w : World} {n me : Int} (hk : NumOk n me) :
    Calls Try.prog 8 #[.int .i64 n, .int .i64 me] w fun x w' => ∃ cb vb g, x = .returned (.tuple #[.pointer (some ⟨cb, 0, none⟩), .int .i64 0]) ∧ ChAt w' (fun _ => False) cb vb g n me 0 no7 no7 (List.replicate 7 noPk) ∧
      w.heap.size ≤ cb ∧ w.heap.size ≤ vb ∧ w.heap.size ≤ g ∧ Below w.heap.size w w' := by
  obtain ⟨hn, m0, m1⟩ := hk
  have d1 : decide (me < 0) = false := by simp; omega
  have d2 : decide (n ≤ me) = false := by simp; omega
  have d3 : decide (n % 2 = 0) = false := by simp; omega
  have d4 : (n % 2 == 0) = false := by simp; omega
  go_enter Try.func8, Try.ntmps8
  go_wp2_with fail
  refine (votes_New (v := 0) (by omega) (by omega) (by decide)).mono ?_
  rintro x w1 ⟨rfl, hV, hb⟩
  have HV := Lib.hid hV
  have HB := Lib.hid hb
  clear hV hb
  have Hvb := Lib.hid (show w.heap.size ≤ w.heap.size + 1 by omega)
  generalize w.heap.size + 1 = vb at *
  go_wp2_with fail
  go_ret2
  have hb2 := (Below.refl w1.heap.size w1).alloc (Nat.le_refl _) (.cells (chc n me 0 vb zpcs) 75)
  have kC := Blk.new w1 75 (chc n me 0 vb zpcs)
  have hlt := HV.out.k.lt
  have hlg := HV.out.m.lt_
  have hz := HB.out.size
  refine ⟨w1.heap.size, vb, w.heap.size, rfl, ⟨⟨zpcs, kC, zpks _ _⟩, rfl, HV.out.below hb2, fun h => h, fun h => h, fun h => h⟩, hz, Hvb.out, Nat.le_refl _, HB.out.trans (hb2.mono hz)⟩

theorem wf_u64 {n : Int} (h0 : 0 ≤ n) (h1 : n < 18446744073709551616) : (Lit.int .u64 n).wf = true := by
  simp only [Lit.wf, IntKind.min, IntKind.max, IntKind.signed, IntKind.bits, Bool.and_eq_true, decide_eq_true_eq]
  simp
  omega
def newT (v vn : Int) (t : List Bool) : List Bool := if v < vn then no7 else t
section
variable {w : World} {S : Nat → Prop} {cb vb g : Nat} {n me v vn : Int} {t h : List Bool} {ps : List Pk}
theorem chc_view (n me v vn : Int) (vb : Nat) (pcs : List Value) : (chc n me v vb pcs).setIfInBounds 2 (.int .u64 vn) = chc n me vn vb pcs := by simp [chc]
set_option maxHeartbeats 3200000 in
theorem ch_Start (H : ChAt w S cb vb g n me v t h ps) (h0 : 0 ≤ vn) (h1 : vn < 18446744073709551616) (hle : v ≤ vn) :
    Calls Try.prog 9 #[.pointer (some ⟨cb, 0, none⟩), .int .u64 vn] w fun x w' => x = .returned (.int .i64 0) ∧ ChAt w' S cb vb g n me vn (newT v vn t) (newT v vn h) ps ∧ Ext (fun j => j = cb ∨ j = g) w w' := by
  have hd : decide (vn < v) = false := by simpa using hle
  obtain ⟨a0, a1, a2, a3, hf, hz⟩ := H.cells
  have hf2 := hf 2
  have hlt := H.lt
  have hne := H.ne
  obtain ⟨⟨pcs, hB, hP⟩, hl, hv, hS⟩ := id H
  have HH := Lib.hid H
  have hE1 : Ext (fun j => j = cb) w (w.setCell ⟨cb, 2, none⟩ (.int .u64 vn)) := (Ext.refl (fun j => j = cb) w).setCell (p := ⟨cb, 2, none⟩) (.inl rfl) _
  have kB : Blk (w.setCell ⟨cb, 2, none⟩ (.int .u64 vn)) cb 75 (chc n me vn vb pcs) := by rw [← chc_view n me v vn vb pcs]; exact hB.set_ 2 _
  have HB := Lib.hid kB
  have HP := Lib.hid (hP.keep (fun k hk hSk => hE1.block k hk (fun e => hS.1 (e ▸ hSk))) (fun _ h _ => h) : PksRd (w.setCell ⟨cb, 2, none⟩ (.int .u64 vn)) S pcs ps)
  have HV := Lib.hid (hv.ext hE1 hne.1.symm hne.2.1.symm : VAt (w.setCell ⟨cb, 2, none⟩ (.int .u64 vn)) vb g n v t h)
  have HE := Lib.hid hE1
  have HL := Lib.hid hl
  have HS := Lib.hid hS
  have Hne := Lib.hid hne
  clear H hB hP hv hE1 kB hl hS hf hlt hne
  go_enter Try.func9, Try.ntmps9
  go_wp2_with fail
  refine (ch_none HH.out).mono ?_
  rintro x _ ⟨rfl, rfl⟩
  go_upto_region 6 with fail
  have b3 := (HB.out.cell 3).trans (show _ = some (Value.pointer (some ⟨vb, 0, none⟩)) from rfl)
  have hz' := HB.out.lt
  clear a0 a1 a2 a3 hf2
  generalize w.setCell ⟨cb, 2, none⟩ (.int .u64 vn) = W at *
  go_wp2_with fail
  refine (votes_Below HV.out (wf_u64 h0 h1) hle).mono ?_
  rintro x w1 ⟨rfl, hA, hE⟩
  have HF := Lib.hid (show ChAt w1 S cb vb g n me vn (newT v vn t) (newT v vn h) ps from by
    have hne := Hne.out
    refine ⟨⟨pcs, HB.out.ext hE hne.2.1, HP.out.keep (fun k hk hSk => hE.block k hk (fun e => HS.out.2.2 (e ▸ hSk))) (fun _ h _ => h)⟩, HL.out, ⟨HV.out.k.ext hE hne.2.2, ?_⟩, HS.out⟩
    unfold newT
    by_cases hlt : v < vn
    · rw [if_pos hlt, if_pos hlt]; exact hA.1 hlt
    · obtain rfl : v = vn := by omega
      rw [if_neg hlt, if_neg hlt]; exact hA.2 hlt)
  have HX := Lib.hid ((HE.out.mono (M' := fun j => j = cb ∨ j = g) (fun _ _ h => .inl h)).trans (hE.mono (fun _ _ h => .inr h)))
  clear hA hE b3
  go_wp2_with fail
  go_ret
  exact ⟨rfl, HF.out, HX.out⟩
theorem ch_Start_arg (H : ChAt w S cb vb g n me v t h ps) (hle : vn < v) :
    Calls Try.prog 9 #[.pointer (some ⟨cb, 0, none⟩), .int .u64 vn] w fun x w' => x = .returned (.int .i64 1) ∧ w = w' := by
  have hd : decide (vn < v) = true := by simpa using hle
  obtain ⟨a0, a1, a2, a3, hf, hz⟩ := H.cells
  have HH := Lib.hid H
  clear H hf
  go_enter Try.func9, Try.ntmps9
  go_wp2_with fail
  refine (ch_none HH.out).mono ?_
  rintro x _ ⟨rfl, rfl⟩
  go_wp2_with fail
  go_ret
  exact ⟨rfl, rfl⟩
end
end Go.Proofs.Ytgmekodfkhihiaa
