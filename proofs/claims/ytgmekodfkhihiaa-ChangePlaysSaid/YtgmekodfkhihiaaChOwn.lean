/-
  Change: the contract of own. (Printed by wip/gen_chown.py.)
-/
import Derived.Test.YtgmekodfkhihiaaChVote
namespace Go.Proofs.Ytgmekodfkhihiaa
open Go.RowKit Go.Maps
set_option linter.unusedSimpArgs false
set_option linter.unusedVariables false

/-- Entries in a row of the call's own: of the first k the commands are its own too. -/
def OwnTo (w : World) (S : Nat → Prop) (base k : Nat) (v : Value) (es : List Ent) : Prop :=
  ∃ cs, w.ownsRow base 32 4 v es.length cs ∧ cs.length = es.length * 4 ∧ ∀ i e, es[i]? = some e → ((i < k → EntR (CmdOwn w base) ((cs.drop (i * 4)).take 4) e) ∧ (k ≤ i → EntR (CmdRd w S) ((cs.drop (i * 4)).take 4) e))
theorem OwnTo.start {w : World} {S : Nat → Prop} {base : Nat} {v : Value} {es : List Ent} {cs : List Value} (ho : w.ownsRow base 32 4 v es.length cs) (hE : Els (EntR (CmdRd w S)) 4 cs es) : OwnTo w S base 0 v es :=
  ⟨cs, ho, hE.1, fun i e he => ⟨fun h => absurd h (by omega), fun _ => hE.2 i e he⟩⟩
theorem OwnTo.end {w : World} {S : Nat → Prop} {base : Nat} {v : Value} {es : List Ent} (h : OwnTo w S base es.length v es) : EntsOwn w base v es := by
  obtain ⟨cs, ho, hl, hE⟩ := h
  exact ⟨cs, ho, hl, fun i e he => (hE i e he).1 (List.getElem?_eq_some_iff.1 he).1⟩
/-- The k-th entry's command. -/
theorem OwnTo.at {w : World} {S : Nat → Prop} {base k n c : Nat} {p : Option Addr} {es : List Ent} (h : OwnTo w S base k (.slice p n c) es) (hk : k < es.length) :
    ∃ g q d, p = some ⟨g, 0, none⟩ ∧ base ≤ g ∧ g < w.heap.size ∧ n = es.length ∧ es.length ≤ c ∧ w.cell? ⟨g, k * 4 + 3, none⟩ = some (.slice q es[k].cmd.length d) ∧ w.frozen? ⟨g, k * 4 + 3, none⟩ = false ∧ CmdRd w S (.slice q es[k].cmd.length d) es[k].cmd := by
  obtain ⟨cs, ho, hl, hE⟩ := h
  obtain ⟨s, hs, hq⟩ := (hE k es[k] (List.getElem?_eq_getElem hk)).2 (Nat.le_refl _)
  obtain ⟨q, d, rfl⟩ := Rd.slice hq
  obtain ⟨-, -, -, h3⟩ := four_at hs
  have hj := (List.getElem?_eq_some_iff.1 h3).1
  have hform : n = es.length ∧ es.length ≤ c ∧ ∃ g, p = some ⟨g, 0, none⟩ := by
    rcases ho.2 with ⟨h1, h2⟩ | ⟨g, cap, cur, h1, _, _, hn, _⟩
    · omega
    · injection h1 with h1 h2 h3; exact ⟨h2, by omega, g, h1⟩
  obtain ⟨rfl, hc, g, rfl⟩ := hform
  have hg := ho.lt g rfl
  refine ⟨g, q, d, rfl, hg.1, hg.2, rfl, hc, ?_, ho.frozenAt _, hq⟩
  rw [ho.cellAt (k * 4 + 3) (by rw [← hl]; exact hj)]
  exact h3
theorem drop4_set {cs : List Value} {i k : Nat} {u : Value} (h : i ≠ k) : ((cs.set (k * 4 + 3) u).drop (i * 4)).take 4 = (cs.drop (i * 4)).take 4 := by
  refine List.ext_getElem? fun j => ?_
  rw [List.getElem?_take, List.getElem?_take]
  split
  · rw [List.getElem?_drop, List.getElem?_drop, List.getElem?_set_ne (by omega)]
  · rfl
theorem drop4_same {cs : List Value} {k : Nat} {a b c d u : Value} (h : (cs.drop (k * 4)).take 4 = [a, b, c, d]) : ((cs.set (k * 4 + 3) u).drop (k * 4)).take 4 = [a, b, c, u] := by
  obtain ⟨h0, h1, h2, h3⟩ := four_at h
  have hj := (List.getElem?_eq_some_iff.1 h3).1
  refine List.ext_getElem? fun j => ?_
  rw [List.getElem?_take]
  split
  · rename_i hj4
    rw [List.getElem?_drop]
    match j, hj4 with
    | 0, _ => rw [List.getElem?_set_ne (by omega)]; simpa using h0
    | 1, _ => rw [List.getElem?_set_ne (by omega)]; simpa using h1
    | 2, _ => rw [List.getElem?_set_ne (by omega)]; simpa using h2
    | 3, _ => rw [List.getElem?_set_self hj]; rfl
  · rw [List.getElem?_eq_none (by simp; omega)]
/-- The k-th command is stored anew. -/
theorem OwnTo.step {w w1 : World} {S : Nat → Prop} {base k n c g : Nat} {es : List Ent} {u : Value} (h : OwnTo w S base k (.slice (some ⟨g, 0, none⟩) n c) es) (hk : k < es.length) (hb : Below w.heap.size w w1) (hu : CmdOwn w1 base u es[k].cmd) (hS : ∀ j, S j → j < base) :
    OwnTo (w1.setCell ⟨g, k * 4 + 3, none⟩ u) S base (k + 1) (.slice (some ⟨g, 0, none⟩) n c) es := by
  obtain ⟨cs, ho, hl, hE⟩ := h
  have ho1 := own_below ho hb
  have hgb := (ho.lt g rfl).1
  have hn : n = es.length := by
    rcases ho.2 with ⟨h1, h2⟩ | ⟨g', cap, cur, h1, _⟩
    · cases h1
    · injection h1 with _ h2
  subst hn
  have hst := (ho1.stored (k * 4 + 3) u).1
  have hB : ∃ cur, Blk w1 g 32 cur := by
    rcases ho1.2 with ⟨h1, h2⟩ | ⟨g', cap, cur, h1, _, hh, _⟩
    · cases h1
    · injection h1 with h1; injection h1 with h1; injection h1 with h1; subst h1; exact ⟨cur, hh⟩
  obtain ⟨cur, hB⟩ := hB
  have kOwn : ∀ s b, CmdOwn w base s b → CmdOwn (w1.setCell ⟨g, k * 4 + 3, none⟩ u) base s b := fun s b h => own_set (own_below h hb) hB (by decide) _ _
  have kRd : ∀ (S' : Nat → Prop) s b, CmdRd w S' s b → (∀ j, S' j → j < w.heap.size → j ≠ g) → CmdRd (w1.setCell ⟨g, k * 4 + 3, none⟩ u) S' s b := fun S' s b h hne => Rd.keep h (fun j hj hSj => (heap_setCell_other w1 ⟨g, k * 4 + 3, none⟩ j _ (hne j hSj hj)).trans (hb.block j hj)) (fun _ h _ => h) (by decide)
  refine ⟨cs.set (k * 4 + 3) u, hst, by rw [List.length_set]; exact hl, fun i e he => ?_⟩
  by_cases hik : i = k
  · subst hik
    obtain rfl : es[i] = e := by rw [List.getElem?_eq_getElem hk] at he; injection he
    obtain ⟨s, hs, -⟩ := (hE i _ he).2 (Nat.le_refl _)
    have hu' : CmdOwn (w1.setCell ⟨g, i * 4 + 3, none⟩ u) base u es[i].cmd := own_set hu hB (by decide) _ _
    rw [drop4_same hs]
    exact ⟨fun _ => ⟨u, rfl, hu'⟩, fun h => absurd h (by omega)⟩
  · rw [drop4_set hik]
    obtain ⟨h1, h2⟩ := hE i e he
    refine ⟨fun hlt => ?_, fun hge => ?_⟩
    · obtain ⟨s', hs', hq⟩ := h1 (by omega)
      exact ⟨s', hs', kOwn _ _ hq⟩
    · obtain ⟨s', hs', hq⟩ := h2 (by omega)
      exact ⟨s', hs', kRd S s' _ hq (fun j hj _ => by have := hS j hj; omega)⟩
theorem OwnTo.keep {w w' : World} {S : Nat → Prop} {base k : Nat} {v : Value} {es : List Ent} (h : OwnTo w S base k v es) (hk : ∀ j, (base ≤ j ∨ S j) → j < w.heap.size → w'.heap[j]? = w.heap[j]?) : OwnTo w' S base k v es := by
  obtain ⟨cs, ho, hl, hE⟩ := h
  exact ⟨cs, own_keep ho (fun j h1 h2 _ => hk j (.inl h1) h2), hl, fun i e he => ⟨fun h => by obtain ⟨s, h1, h2⟩ := (hE i e he).1 h; exact ⟨s, h1, own_keep h2 (fun j h3 h4 _ => hk j (.inl h3) h4)⟩,
    fun h => by obtain ⟨s, h1, h2⟩ := (hE i e he).2 h; exact ⟨s, h1, Rd.keep h2 (fun j h3 h4 => hk j (.inr h4) h3) (fun _ h _ => h) (by decide)⟩⟩⟩

theorem EntsOwn.setsR {w : World} {base g : Nat} {v : Value} {es : List Ent} {c : Array Value} (h : EntsOwn w base v es) (hg : Blk w g 35 c) {a0 a1 a2 a3 : Value} :
    EntsOwn ((((w.setCell ⟨g, 0, none⟩ a0).setCell ⟨g, 1, none⟩ a1).setCell ⟨g, 2, none⟩ a2).setCell ⟨g, 3, none⟩ a3) base v es :=
  (((h.set_ hg (by decide) (by decide) 0 a0).set_ (hg.set_ _ _) (by decide) (by decide) 1 a1).set_ ((hg.set_ _ _).set_ _ _) (by decide) (by decide) 2 a2).set_ (((hg.set_ _ _).set_ _ _).set_ _ _) (by decide) (by decide) 3 a3
theorem Below.sets4 {w w' : World} {g : Nat} (h : Below w.heap.size w w') (hg : w.heap.size ≤ g) {a0 a1 a2 a3 : Value} :
    Below w.heap.size w ((((w'.setCell ⟨g, 0, none⟩ a0).setCell ⟨g, 1, none⟩ a1).setCell ⟨g, 2, none⟩ a2).setCell ⟨g, 3, none⟩ a3) :=
  (((h.setCell (p := ⟨g, 0, none⟩) hg a0).setCell (p := ⟨g, 1, none⟩) hg a1).setCell (p := ⟨g, 2, none⟩) hg a2).setCell (p := ⟨g, 3, none⟩) hg a3
set_option maxHeartbeats 6400000 in
set_option maxRecDepth 100000 in
theorem ch_own {w : World} {S : Nat → Prop} {l b c : Int} {s : Value} {es : List Ent} (h : EntsRd w S s es) (hf : Fits es) (hn : es.length ≤ 1000) (hS : ∀ j, S j → j < w.heap.size) :
    Calls Try.prog 32 #[.agg #[.int .u64 l, .int .u64 b, .int .u64 c, s]] w fun x w' => ∃ p d, x = .returned (.agg #[.int .u64 l, .int .u64 b, .int .u64 c, .slice p es.length d]) ∧ EntsOwn w' w.heap.size (.slice p es.length d) es ∧ Below w.heap.size w w' := by
  obtain ⟨cs, hr, hE⟩ := h
  obtain ⟨p0, c0, rfl⟩ := Rd.slice hr
  have hX := ((Below.refl w.heap.size w).alloc (Nat.le_refl _) (.cells #[.int .u64 l, .int .u64 b, .int .u64 c, .slice p0 es.length c0] 35)).alloc (by simp) (.cells #[.int .u64 0, .int .u64 0, .int .u64 0, .slice none 0 0] 35)
  have kM := (Blk.new w 35 #[.int .u64 l, .int .u64 b, .int .u64 c, .slice p0 es.length c0]).alloc (.cells #[.int .u64 0, .int .u64 0, .int .u64 0, .slice none 0 0] 35)
  have kR := Blk.new (w.alloc (.cells #[.int .u64 l, .int .u64 b, .int .u64 c, .slice p0 es.length c0] 35)) 35 #[.int .u64 0, .int .u64 0, .int .u64 0, .slice none 0 0]
  rw [World.size_alloc] at kR
  have hN : ((w.alloc (.cells #[.int .u64 l, .int .u64 b, .int .u64 c, .slice p0 es.length c0] 35)).alloc (.cells #[.int .u64 0, .int .u64 0, .int .u64 0, .slice none 0 0] 35)).heap.size = w.heap.size + 1 + 1 := by simp
  have HX := Lib.hid hX
  have KM := Lib.hid kM
  have KR := Lib.hid kR
  have HN := Lib.hid hN
  have Hr := Lib.hid (Rd.below hr (by decide) hX)
  have HE := Lib.hid hE
  have Hf := Lib.hid hf
  have HS := Lib.hid hS
  obtain ⟨m0, m1, m2, m3, -⟩ := kM.c4
  have hz0 := kM.lt
  clear hr hE hX kM kR hN hf hS
  go_enter Try.func32, Try.ntmps32
  go_wp2_with fail
  generalize (w.alloc (.cells #[.int .u64 l, .int .u64 b, .int .u64 c, .slice p0 es.length c0] 35)).alloc (.cells #[.int .u64 0, .int .u64 0, .int .u64 0, .slice none 0 0] 35) = W at *
  refine (slices_Clone_E (S := S) (cs := cs) Hr.out (Els.one HE.out (EntR.one CmdRd.one) (by decide)) (by omega)).mono ?_
  rintro x w1 ⟨p1, c1, rfl, ho, hb⟩
  have KM1 := Lib.hid (KM.out.below hb)
  have KR1 := Lib.hid (KR.out.below hb)
  have HX1 := Lib.hid (HX.out.trans (hb.mono HX.out.size))
  have hto : OwnTo w1 S (w.heap.size + 2) 0 (.slice p1 es.length c1) es := OwnTo.start (own_base ho (by rw [HN.out]; omega)) (HE.out.imp fun c e _ ⟨s, h1, h2⟩ => ⟨s, h1, Rd.keep h2 (fun k hk hSk => HX1.out.block k hk) (fun _ h _ => h) (by decide)⟩)
  have HT := Lib.hid hto
  have hz1 : w.heap.size + 2 ≤ w1.heap.size := by have := hb.size; rw [HN.out] at this; exact this
  have HZ1 := Lib.hid hz1
  clear ho hb hto m0 m1 m2 m3 hz0 hz1 KM KR HX Hr
  obtain ⟨m0, m1, m2, m3, f0, f1, f2, f3, hz0⟩ := KM1.out.c4
  go_upto_region 2 with fail
  have hE2 : Ext (fun j => j = w.heap.size) w1 (w1.setCell ⟨w.heap.size, 3, none⟩ (.slice p1 es.length c1)) := (Ext.refl (fun j => j = w.heap.size) w1).setCell (p := ⟨w.heap.size, 3, none⟩) (.inl rfl) _
  have kM2 : Blk (w1.setCell ⟨w.heap.size, 3, none⟩ (.slice p1 es.length c1)) w.heap.size 35 #[.int .u64 l, .int .u64 b, .int .u64 c, .slice p1 es.length c1] := by simpa using KM1.out.set_ 3 (.slice p1 es.length c1)
  have kR2 := KR1.out.ext hE2 (by omega)
  have hT2 := HT.out.keep (w' := w1.setCell ⟨w.heap.size, 3, none⟩ (.slice p1 es.length c1)) (fun j hj hlt => hE2.block j hlt (fun e => by rcases hj with hj | hj; omega; have := HS.out j hj; omega))
  have hX2 : Below w.heap.size w (w1.setCell ⟨w.heap.size, 3, none⟩ (.slice p1 es.length c1)) := Ext.from HX1.out hE2 (fun j hj => by omega)
  have hz2 : (w1.setCell ⟨w.heap.size, 3, none⟩ (.slice p1 es.length c1)).heap.size = w1.heap.size := by simp [World.setCell]
  have HZ2 := Lib.hid (show w.heap.size + 2 ≤ (w1.setCell ⟨w.heap.size, 3, none⟩ (.slice p1 es.length c1)).heap.size by rw [hz2]; exact HZ1.out)
  have KM2 := Lib.hid kM2
  have KR2 := Lib.hid kR2
  have HT2 := Lib.hid hT2
  have HX2 := Lib.hid hX2
  clear hE2 kM2 kR2 hT2 hX2 hz2 m0 m1 m2 m3 f0 f1 f2 f3 hz0 KM1 KR1 HT HX1 HZ1
  generalize w1.setCell ⟨w.heap.size, 3, none⟩ (.slice p1 es.length c1) = W2 at *
  obtain ⟨m0, m1, m2, m3, -⟩ := KM2.out.c4
  go_wp2_with fail
  go_loopw [3, 11] (fun _ i wr => ∃ q : Nat, q ≤ es.length ∧ i = .int .i64 q ∧ Hid (OwnTo wr S (w.heap.size + 2) q (.slice p1 es.length c1) es ∧ Blk wr w.heap.size 35 #[.int .u64 l, .int .u64 b, .int .u64 c, .slice p1 es.length c1] ∧ Blk wr (w.heap.size + 1) 35 #[.int .u64 0, .int .u64 0, .int .u64 0, .slice none 0 0] ∧ Below w.heap.size w wr ∧ w.heap.size + 2 ≤ wr.heap.size)) (fun _ i _ => es.length - (intOf i).toNat)
  case atStart => exact ⟨0, Nat.zero_le _, rfl, Lib.hid ⟨HT2.out, KM2.out, KR2.out, HX2.out, HZ2.out⟩⟩
  case round =>
    obtain ⟨q, hq, rfl, hR⟩ := hrel
    by_cases hlt : q < es.length
    · obtain ⟨g, cq, cd, hp, hgb, hgl, -, hcap, hcell, hfr, hcmd⟩ := hR.out.1.at hlt
      subst hp
      have Hgb := Lib.hid hgb
      have HT := Lib.hid hR.out.1
      have KM := Lib.hid hR.out.2.1
      have KR := Lib.hid hR.out.2.2.1
      have HX := Lib.hid hR.out.2.2.2.1
      have HZ := Lib.hid hR.out.2.2.2.2
      have Hcmd := Lib.hid hcmd
      have Hfit := Lib.hid (Hf.out es[q] (List.getElem_mem hlt))
      clear hR hcmd hgb m0 m1 m2 m3
      go_upto_region 5 with fail
      have hS0 : Holds [(w.heap.size, 3, .slice (some ⟨g, 0, none⟩) es.length c1)] wr.drew := ⟨KM.out.cell 3, trivial⟩
      have hT0 : Hold1 (g, q * 4 + 3, .slice cq es[q].cmd.length cd) wr.drew := hcell
      have Hfr := Lib.hid hfr
      clear hcell hfr
      refine begin_D (T := Hold1 (g, q * 4 + 3, .slice cq es[q].cmd.length cd)) [12] (by kernel_rfl) hS0 (fun _ => hT0) ?_
      refine take_S (v := ?v0a) 0 rfl (by kernel_rfl) (by kernel_rfl) (by kernel_rfl) (by kernel_rfl) (fun _ _ _ h => h) hS0 (fun _ => hT0) rfl (fun w' hq => ?h0a) ?_
      case h0a => go_simp; try with_reducible rfl
      try simp only [Act.put, List.setIfInBounds_toArray, List.set_cons_zero, List.set_cons_succ, List.getElem_toArray, List.getElem_cons_succ, List.getElem_cons_zero]
      refine take_S (v := ?v1a) 1 rfl (by kernel_rfl) (by kernel_rfl) (by kernel_rfl) (by kernel_rfl) (fun _ _ _ h => h) hS0 (fun _ => hT0) rfl (fun w' hq => ?h1a) ?_
      case h1a => obtain ⟨q0, -⟩ := hq; change _ = some _ at q0; go_simp; try with_reducible rfl
      try simp only [Act.put, List.setIfInBounds_toArray, List.set_cons_zero, List.set_cons_succ, List.getElem_toArray, List.getElem_cons_succ, List.getElem_cons_zero]
      refine take_S (v := ?v2a) 2 rfl (by kernel_rfl) (by kernel_rfl) (by kernel_rfl) (by kernel_rfl) (fun _ _ _ h => h) hS0 (fun _ => hT0) rfl (fun w' hq => ?h2a) ?_
      case h2a => go_simp; try with_reducible rfl
      try simp only [Act.put, List.setIfInBounds_toArray, List.set_cons_zero, List.set_cons_succ, List.getElem_toArray, List.getElem_cons_succ, List.getElem_cons_zero]
      refine take_S (v := ?v3a) 3 rfl (by kernel_rfl) (by kernel_rfl) (by kernel_rfl) (by kernel_rfl) (fun _ _ _ h => h) hS0 (fun _ => hT0) rfl (fun w' hq => ?h3a) ?_
      case h3a => go_simp; try with_reducible rfl
      try simp only [Act.put, List.setIfInBounds_toArray, List.set_cons_zero, List.set_cons_succ, List.getElem_toArray, List.getElem_cons_succ, List.getElem_cons_zero]
      refine take_S (v := ?v4a) 4 rfl (by kernel_rfl) (by kernel_rfl) (by kernel_rfl) (by kernel_rfl) (fun _ _ _ h => h) hS0 (fun _ => hT0) rfl (fun w' hq => ?h4a) ?_
      case h4a => obtain ⟨q0, -⟩ := hq; change _ = some _ at q0; go_simp; try with_reducible rfl
      try simp only [Act.put, List.setIfInBounds_toArray, List.set_cons_zero, List.set_cons_succ, List.getElem_toArray, List.getElem_cons_succ, List.getElem_cons_zero]
      refine take_S (v := ?v5a) 5 rfl (by kernel_rfl) (by kernel_rfl) (by kernel_rfl) (by kernel_rfl) (fun _ _ _ h => h) hS0 (fun _ => hT0) rfl (fun w' hq => ?h5a) ?_
      case h5a => go_simp; try with_reducible rfl
      try simp only [Act.put, List.setIfInBounds_toArray, List.set_cons_zero, List.set_cons_succ, List.getElem_toArray, List.getElem_cons_succ, List.getElem_cons_zero]
      refine take_S (v := ?v6a) 6 rfl (by kernel_rfl) (by kernel_rfl) (by kernel_rfl) (by kernel_rfl) (fun _ _ _ h => h) hS0 (fun _ => hT0) rfl (fun w' hq => ?h6a) ?_
      case h6a => go_simp; try with_reducible rfl
      try simp only [Act.put, List.setIfInBounds_toArray, List.set_cons_zero, List.set_cons_succ, List.getElem_toArray, List.getElem_cons_succ, List.getElem_cons_zero]
      refine take_S (v := ?v7a) 7 rfl (by kernel_rfl) (by kernel_rfl) (by kernel_rfl) (by kernel_rfl) (fun _ _ _ h => h) hS0 (fun _ => hT0) rfl (fun w' hq => ?h7a) ?_
      case h7a => go_simp; try with_reducible rfl
      try simp only [Act.put, List.setIfInBounds_toArray, List.set_cons_zero, List.set_cons_succ, List.getElem_toArray, List.getElem_cons_succ, List.getElem_cons_zero]
      refine take_T (v := ?v8a) 8 rfl (by kernel_rfl) (by kernel_rfl) (by kernel_rfl) (by kernel_rfl) (by kernel_rfl) (by kernel_rfl) (fun _ _ _ h => h) hS0 (fun _ => hT0) rfl (fun w' hq hr => ?h8a) ?_
      case h8a => change _ = some _ at hr; go_simp; try with_reducible rfl
      try simp only [Act.put, List.setIfInBounds_toArray, List.set_cons_zero, List.set_cons_succ, List.getElem_toArray, List.getElem_cons_succ, List.getElem_cons_zero]
      refine one_D 9 rfl (by kernel_rfl) (fun KQ hK => ?_)
      go_simp
      refine (bytes_Clone (S := S) (cs := bcells es[q].cmd) (Rd.drew Hcmd.out) (bcells_one _) Hfit.out).mono ?_
      rintro x w3 ⟨p3, c3, rfl, ho3, hb3⟩
      have hb : Below wr.heap.size wr w3 := (Below.refl _ wr).drew.trans hb3
      have hS3 : Holds [(w.heap.size, 3, .slice (some ⟨g, 0, none⟩) es.length c1)] w3 := Holds.below_ hS0 hb3
      have hT3 : Hold1 (g, q * 4 + 3, .slice cq es[q].cmd.length cd) w3 := (hb3.cell (p := ⟨g, q * 4 + 3, none⟩) hgl).trans hT0
      have hfr3 : w3.frozen? ⟨g, q * 4 + 3, none⟩ = false := (hb.frozen (p := ⟨g, q * 4 + 3, none⟩) hgl).trans Hfr.out
      have hgl3 : g < w3.heap.size := Nat.lt_of_lt_of_le hgl hb.size
      have hstep := HT.out.step hlt hb (own_base ho3 (by have := HZ.out; show _ ≤ wr.heap.size; omega)) (fun j hj => by have := HS.out j hj; omega)
      have HT3 := Lib.hid hstep
      have hMne : w.heap.size ≠ g := by have := Hgb.out; omega
      have hRne : w.heap.size + 1 ≠ g := by have := Hgb.out; omega
      have KM3 := Lib.hid (((KM.out.below hb).far (p := ⟨g, q * 4 + 3, none⟩) hMne (.slice p3 es[q].cmd.length c3)))
      have KR3 := Lib.hid (((KR.out.below hb).far (p := ⟨g, q * 4 + 3, none⟩) hRne (.slice p3 es[q].cmd.length c3)))
      have HX3 := Lib.hid ((HX.out.trans (hb.mono HX.out.size)).setCell (p := ⟨g, q * 4 + 3, none⟩) (by have := Hgb.out; show w.heap.size ≤ g; omega) (.slice p3 es[q].cmd.length c3))
      have HZ3 := Lib.hid (show w.heap.size + 2 ≤ (w3.setCell ⟨g, q * 4 + 3, none⟩ (.slice p3 es[q].cmd.length c3)).heap.size by have := HZ.out; have := hb.size; simp [World.setCell]; omega)
      have hS4 : Holds [(w.heap.size, 3, .slice (some ⟨g, 0, none⟩) es.length c1)] (w3.setCell ⟨g, q * 4 + 3, none⟩ (.slice p3 es[q].cmd.length c3)) := ⟨KM3.out.cell 3, trivial⟩
      refine hK.out _ _ hS3 (fun _ => hT3) ?_
      clear hK hS0 hT0 hb3 hb ho3 hstep hMne hRne HT KM KR HX HZ Hcmd
      refine take_S (v := ?v10b) 10 rfl (by kernel_rfl) (by kernel_rfl) (by kernel_rfl) (by kernel_rfl) (fun _ _ _ h => h) hS3 (fun _ => hT3) rfl (fun w' hq => ?h10b) ?_
      case h10b => go_simp; try with_reducible rfl
      try simp only [Act.put, List.setIfInBounds_toArray, List.set_cons_zero, List.set_cons_succ, List.getElem_toArray, List.getElem_cons_succ, List.getElem_cons_zero]
      refine take_S (v := ?v11b) 11 rfl (by kernel_rfl) (by kernel_rfl) (by kernel_rfl) (by kernel_rfl) (fun _ _ _ h => h) hS3 (fun _ => hT3) rfl (fun w' hq => ?h11b) ?_
      case h11b => go_simp; try with_reducible rfl
      try simp only [Act.put, List.setIfInBounds_toArray, List.set_cons_zero, List.set_cons_succ, List.getElem_toArray, List.getElem_cons_succ, List.getElem_cons_zero]
      have hcell3 := hT3
      change _ = some _ at hcell3
      refine one_D 12 rfl (by kernel_rfl) (fun KQ hK => ?_)
      go_simp
      refine hK.out _ _ hS4 (fun h => absurd h (by decide)) ?_
      clear hK hS3 hT3 hcell3 hfr3
      refine done_D (by kernel_rfl) ?_ _
      clear hS4
      go_wp2_with fail
      go_roundw
      case rel => exact ⟨q + 1, by omega, by go_num, Lib.hid ⟨HT3.out, KM3.out, KR3.out, HX3.out, HZ3.out⟩⟩
      case measure => simp [intOf] <;> omega
    · obtain rfl : q = es.length := by omega
      have KM := Lib.hid hR.out.2.1
      have KR := Lib.hid hR.out.2.2.1
      have HX := Lib.hid hR.out.2.2.2.1
      have HF := Lib.hid hR.out.1.end
      clear hR m0 m1 m2 m3
      obtain ⟨m0, m1, m2, m3, -⟩ := KM.out.c4
      obtain ⟨r0, r1, r2, r3, f0, f1, f2, f3, hz0⟩ := KR.out.c4
      go_wp2_with fail
      refine bodyPost_ret (v := .agg #[.int .u64 l, .int .u64 b, .int .u64 c, .slice p1 es.length c1]) (by simp [results, Try.results32, go_sem, r0, r1, r2, r3]) rfl ?_
      refine ⟨p1, c1, rfl, ?_, ?_⟩
      · have hb := Blk.set4 (a' := .int .u64 l) (b' := .int .u64 b) (c' := .int .u64 c) (d' := .slice p1 es.length c1) KR.out
        exact (EntsOwn.setsR HF.out KR.out).base (by omega)
      · exact Below.sets4 HX.out (by omega)
end Go.Proofs.Ytgmekodfkhihiaa
