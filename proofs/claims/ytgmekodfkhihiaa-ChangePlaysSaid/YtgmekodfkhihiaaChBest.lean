/-
  Change: the contract of Best. (Printed by wip/gen_chbest.py.)
-/
import Derived.Test.YtgmekodfkhihiaaChHand
import Derived.Test.YtgmekodfkhihiaaBetter22
namespace Go.Proofs.Ytgmekodfkhihiaa
open Go.RowKit Go.Maps
set_option linter.unusedSimpArgs false
set_option linter.unusedVariables false

/-- A pack that may be. -/
structure PkOk (p : Pk) : Prop where
  may : mayB p.l p.b p.c p.es = true
  b0 : 0 ≤ p.b
  c0 : 0 ≤ p.c
theorem PkOk.parts {p : Pk} (h : PkOk p) : p.es.length ≤ 64 ∧ p.b ≤ 1099511627776 ∧ Fits p.es ∧ p.b ≤ p.c ∧ p.c ≤ p.b + p.es.length := by
  have hm := h.may
  unfold mayB at hm
  simp at hm
  obtain ⟨h1, h2, h3, h4, h5, h6⟩ := hm
  refine ⟨h3, h2, fun e he => ?_, h5, h6⟩
  have := h4
  unfold longB at this
  rw [List.any_eq_false] at this
  have := this e he
  simp [longE] at this
  omega
theorem noPk_ok : PkOk noPk := ⟨rfl, by decide, by decide⟩
def Pk.op (p : Pk) : Int := p.b + p.es.length
def Pk.better (p q : Pk) : Bool := betterB p.l p.op q.l q.op
theorem PkOk.wrap {p : Pk} (h : PkOk p) : IntKind.u64.wrap (p.b + (p.es.length : Nat)) = p.op := by
  have := h.parts
  have := h.b0
  exact IntWalk.u64_in _ (by omega)
/-- One look at a pack. -/
def look (p : Pk) (s : Int × Pk) : Int × Pk := (if s.1 < p.c then p.c else s.1, if p.better s.2 = true then p else s.2)
/-- Looks at the packs of these nodes. -/
def looks (ps : List Pk) (l : List Nat) (s : Int × Pk) : Int × Pk := l.foldl (fun s i => look (ps.getD i noPk) s) s
def bestOf (ps : List Pk) (l : List Nat) : Pk :=
  let r := looks ps l (0, ps.getD (l.headD 0) noPk)
  { r.2 with c := if r.1 < r.2.op then r.1 else r.2.op }

section
variable {w : World} {S : Nat → Prop} {cb vb g : Nat} {n me v : Int} {t h : List Bool} {ps : List Pk}
set_option maxHeartbeats 6400000 in
set_option maxRecDepth 100000 in
/-- The look: 'commit' at block bc, 'best' at block bb. -/
theorem ch_look {T : Nat → Prop} {bc bb : Nat} {p q : Pk} {sp sq : Value} {cm : Int} (kc : Blk w bc 28 #[.int .u64 cm]) (kb : Blk w bb 35 #[.int .u64 q.l, .int .u64 q.b, .int .u64 q.c, sq]) (hp : PkOk p) (hq : PkOk q) (rp : EntsRd w T sp p.es) (rq : EntsRd w T sq q.es) :
    Calls Try.prog 34 #[.agg #[.int .u64 p.l, .int .u64 p.b, .int .u64 p.c, sp], .pointer (some ⟨bc, 0, none⟩), .pointer (some ⟨bb, 0, none⟩)] w fun x w' => x = .returned (.tuple #[]) ∧
      Blk w' bc 28 #[.int .u64 (look p (cm, q)).1] ∧ (∃ s, Blk w' bb 35 #[.int .u64 (look p (cm, q)).2.l, .int .u64 (look p (cm, q)).2.b, .int .u64 (look p (cm, q)).2.c, s] ∧ (s = sp ∧ (look p (cm, q)).2 = p ∨ s = sq ∧ (look p (cm, q)).2 = q)) ∧ Ext (fun j => j = bc ∨ j = bb) w w' := by
  obtain ⟨cs, hr, -⟩ := id rp
  obtain ⟨p0, c0, rfl⟩ := Rd.slice hr
  obtain ⟨ds, hr2, -⟩ := id rq
  obtain ⟨q0, d0, rfl⟩ := Rd.slice hr2
  obtain ⟨y0, f0, hz0⟩ := kc.c1
  have kc' := kc
  have kb' := kb
  have hne := kc.ne_ kb (by decide)
  have hbA := (Below.refl w.heap.size w).alloc (Nat.le_refl _) (.cells #[.int .u64 p.l, .int .u64 p.b, .int .u64 p.c, .slice p0 p.es.length c0] 35)
  have kA := Blk.new w 35 #[.int .u64 p.l, .int .u64 p.b, .int .u64 p.c, .slice p0 p.es.length c0]
  have HA := Lib.hid hbA
  have KA := Lib.hid kA
  have KC0 := Lib.hid kc
  have KB0 := Lib.hid kb
  have KC := Lib.hid (kc.below hbA)
  have KB := Lib.hid (kb.below hbA)
  have Hne := Lib.hid (And.intro hne (And.intro kc.lt kb.lt))
  have Hp := Lib.hid hp
  have Hq := Lib.hid hq
  obtain ⟨a0, a1, a2, a3, -⟩ := kA.c4
  have y1 := KC.out.cell 0
  have f1 := KC.out.frozen 0
  have hz1 := kA.lt
  clear hr hr2 rp rq kc kb kc' kb' hne hbA kA hp hq y0 f0
  obtain ⟨X, hX⟩ : ∃ X, (if cm < p.c then p.c else cm) = X := ⟨_, rfl⟩
  have HX0 := Lib.hid hX
  have hp64 := Hp.out.parts.1
  have hq64 := Hq.out.parts.1
  go_enter Try.func34, Try.ntmps34
  go_upto_region 2 with fail
  clear hX
  have hE1 : Ext (fun j => j = bc ∨ j = bb) w (w.setCell ⟨bc, 0, none⟩ (.int .u64 X)) := (Ext.refl _ w).setCell (p := ⟨bc, 0, none⟩) (.inl (.inl rfl)) _
  have hzs : (w.setCell ⟨bc, 0, none⟩ (.int .u64 X)).heap.size = w.heap.size := by simp [World.setCell]
  have kC2 : Blk ((w.setCell ⟨bc, 0, none⟩ (.int .u64 X)).alloc (.cells #[.int .u64 p.l, .int .u64 p.b, .int .u64 p.c, .slice p0 p.es.length c0] 35)) bc 28 #[.int .u64 (look p (cm, q)).1] := by
    have h := (KC0.out.set_ 0 (.int .u64 X)).alloc (.cells #[.int .u64 p.l, .int .u64 p.b, .int .u64 p.c, .slice p0 p.es.length c0] 35)
    rw [show (look p (cm, q)).1 = X from HX0.out]
    simpa using h
  have kB2 := (KB0.out.far (p := ⟨bc, 0, none⟩) (fun e => Hne.out.1 e.symm) (.int .u64 X)).alloc (.cells #[.int .u64 p.l, .int .u64 p.b, .int .u64 p.c, .slice p0 p.es.length c0] 35)
  have kA2 := Blk.new (w.setCell ⟨bc, 0, none⟩ (.int .u64 X)) 35 #[.int .u64 p.l, .int .u64 p.b, .int .u64 p.c, .slice p0 p.es.length c0]
  rw [hzs] at kA2
  have hE2 := hE1.alloc (.cells #[.int .u64 p.l, .int .u64 p.b, .int .u64 p.c, .slice p0 p.es.length c0] 35)
  have KC2 := Lib.hid kC2
  have KB2 := Lib.hid kB2
  have KA2 := Lib.hid kA2
  have HE2 := Lib.hid hE2
  clear hE1 hzs kC2 kB2 kA2 hE2 a0 a1 a2 a3 y1 f1 hz1 hz0 HA KA KC KB KC0 KB0
  generalize (w.setCell ⟨bc, 0, none⟩ (.int .u64 X)).alloc (.cells #[.int .u64 p.l, .int .u64 p.b, .int .u64 p.c, .slice p0 p.es.length c0] 35) = W2 at *
  obtain ⟨a0, a1, a2, a3, -⟩ := KA2.out.c4
  obtain ⟨b0, b1, b2, b3, -⟩ := KB2.out.c4
  obtain ⟨r, hr⟩ : ∃ r, p.better q = r := ⟨_, rfl⟩
  have Hr := Lib.hid hr
  clear hr
  go_wp2_with fail
  refine (pack_Better (r := r) (a1 := p.l) (b1 := p.b) (c1 := p.c) (a2 := q.l) (b2 := q.b) (c2 := q.c) (p1 := p0) (n1 := p.es.length) (k1 := c0) (p2 := q0) (n2 := q.es.length) (k2 := d0) (by omega) (by omega) (by rw [Hp.out.wrap, Hq.out.wrap]; exact Hr.out)).mono ?_
  rintro x w3 ⟨rfl, hb⟩
  have KC3 := Lib.hid (KC2.out.below hb)
  have KB3 := Lib.hid (KB2.out.below hb)
  have KA3 := Lib.hid (KA2.out.below hb)
  have HE3 := Lib.hid (HE2.out.trans (Ext.of_below _ hb))
  clear hb a0 a1 a2 a3 b0 b1 b2 b3 KC2 KB2 KA2 HE2
  obtain ⟨a0, a1, a2, a3, -⟩ := KA3.out.c4
  obtain ⟨b0, b1, b2, b3, g0, g1, g2, g3, hzb⟩ := KB3.out.c4
  cases r with
  | true =>
    have hl : (look p (cm, q)).2 = p := by simp [look, Hr.out]
    have Hl := Lib.hid hl
    clear hl
    go_wp2_with fail
    have kB4 := Blk.set4 (a' := .int .u64 p.l) (b' := .int .u64 p.b) (c' := .int .u64 p.c) (d' := .slice p0 p.es.length c0) KB3.out
    have kC4 := KC3.out.ext ((Ext.refl (fun j => j = bb) w3).sets4 (g := bb) (i := 0) (j := 1) (k := 2) (l := 3) rfl (a0 := .int .u64 p.l) (a1 := .int .u64 p.b) (a2 := .int .u64 p.c) (a3 := .slice p0 p.es.length c0)) (by have := Hne.out.1; exact this)
    refine bodyPost_end (results_none rfl _ _ _) rfl ⟨rfl, kC4, ⟨_, ?_, .inl ⟨rfl, Hl.out⟩⟩, HE3.out.sets4 (.inr rfl)⟩
    rw [Hl.out]
    exact kB4
  | false =>
    have hl : (look p (cm, q)).2 = q := by simp [look, Hr.out]
    have Hl := Lib.hid hl
    clear hl
    go_wp2_with fail
    refine bodyPost_end (results_none rfl _ _ _) rfl ⟨rfl, KC3.out, ⟨_, ?_, .inr ⟨rfl, Hl.out⟩⟩, HE3.out⟩
    rw [Hl.out]
    exact KB3.out
theorem ChAt.packD (H : ChAt w S cb vb g n me v t h ps) {k : Nat} (hk : k < 7) : ∃ s, w.cell? ⟨cb, 4 + k * 4, none⟩ = some (.int .u64 (ps.getD k noPk).l) ∧ w.cell? ⟨cb, 4 + k * 4 + 1, none⟩ = some (.int .u64 (ps.getD k noPk).b) ∧
    w.cell? ⟨cb, 4 + k * 4 + 2, none⟩ = some (.int .u64 (ps.getD k noPk).c) ∧ w.cell? ⟨cb, 4 + k * 4 + 3, none⟩ = some s ∧ EntsRd w S s (ps.getD k noPk).es := by
  have e : ps.getD k noPk = ps[k]'(by rw [H.len]; exact hk) := by simp [List.getD, List.getElem?_eq_getElem (show k < ps.length by rw [H.len]; exact hk)]
  rw [e]
  exact H.pack hk
theorem pk_at {ps : List Pk} (hps : ∀ p ∈ ps, PkOk p) (k : Nat) : PkOk (ps.getD k noPk) := by
  unfold List.getD
  cases h : ps[k]? with
  | none => exact noPk_ok
  | some p => exact hps p (List.mem_of_getElem? h)
/-- What stands in memory while Best looks. -/
structure BestSt (w : World) (S : Nat → Prop) (cb vb g : Nat) (n me v : Int) (t h : List Bool) (ps : List Pk) (wg : Nat) (wl : List Nat) (bb bc : Nat) (cm : Int) (q : Pk) (s : Value) (W : World) : Prop where
  X : Below w.heap.size w W
  H : ChAt W S cb vb g n me v t h ps
  kR : Blk W w.heap.size 35 #[.int .u64 0, .int .u64 0, .int .u64 0, .slice none 0 0]
  row : ∀ k (hk : k < wl.length), W.cell? ⟨wg, k, none⟩ = some (.int .i64 (wl[k] : Int))
  kb : Blk W bb 35 #[.int .u64 q.l, .int .u64 q.b, .int .u64 q.c, s]
  kc : Blk W bc 28 #[.int .u64 cm]
  r : EntsRd W S s q.es
  ne : w.heap.size < bb ∧ w.heap.size < bc ∧ wg ≠ bb ∧ wg ≠ bc ∧ wg < W.heap.size
  ok : PkOk q
theorem BestSt.step {wg bb bc : Nat} {wl : List Nat} {cm cm' : Int} {q q' : Pk} {s s' : Value} {W W' : World} (B : BestSt w S cb vb g n me v t h ps wg wl bb bc cm q s W) (hE : Ext (fun j => j = bc ∨ j = bb) W W') (hS : ∀ j, S j → j < w.heap.size) (hlt : cb < w.heap.size ∧ vb < w.heap.size ∧ g < w.heap.size)
    (kb : Blk W' bb 35 #[.int .u64 q'.l, .int .u64 q'.b, .int .u64 q'.c, s']) (kc : Blk W' bc 28 #[.int .u64 cm']) (r : EntsRd W S s' q'.es) (ok : PkOk q') : BestSt w S cb vb g n me v t h ps wg wl bb bc cm' q' s' W' := by
  have hne := B.ne
  refine ⟨Ext.from B.X hE (fun j hj => by omega), B.H.ext hE (fun j hj hm => by have := hS j hj; omega) (by omega) (by omega) (by omega), B.kR.ext hE (by omega), fun k hk => (cell_keep (hE.block wg hne.2.2.2.2 (by omega))).trans (B.row k hk), kb, kc, r.keep (fun j hj hSj => hE.block j hj (by have := hS j hSj; omega)) (fun _ h _ => h), ⟨hne.1, hne.2.1, hne.2.2.1, hne.2.2.2.1, Nat.lt_of_lt_of_le hne.2.2.2.2 hE.size⟩, ok⟩
theorem BestSt.below {wg bb bc : Nat} {wl : List Nat} {cm : Int} {q : Pk} {s : Value} {W W' : World} (B : BestSt w S cb vb g n me v t h ps wg wl bb bc cm q s W) (hb : Below W.heap.size W W') (hS : ∀ j, S j → j < w.heap.size) (hlt : cb < w.heap.size ∧ vb < w.heap.size ∧ g < w.heap.size) : BestSt w S cb vb g n me v t h ps wg wl bb bc cm q s W' :=
  B.step (Ext.of_below _ hb) hS hlt (B.kb.below hb) (B.kc.below hb) B.r B.ok
theorem whoL_lt {l : List Bool} {i : Nat} (h : i ∈ whoL l) : i < l.length := by
  unfold whoL at h
  exact List.mem_range.1 (List.mem_filter.1 h).1
theorem looks_succ {ps : List Pk} {l : List Nat} {k : Nat} (hk : k < l.length) (s : Int × Pk) : looks ps (l.take (k + 1)) s = look (ps.getD l[k] noPk) (looks ps (l.take k) s) := by
  unfold looks
  rw [take_snoc l k hk, List.foldl_append]
  rfl
theorem look_mem {p : Pk} {s : Int × Pk} : (look p s).2 = p ∨ (look p s).2 = s.2 := by
  unfold look
  by_cases h : p.better s.2 = true
  · left; simp [h]
  · right; simp [h]
theorem row_int {w : World} {base n : Nat} {v : Value} {l : List Nat} (h : w.ownsRow base 3 1 v n (icells l)) (hn : n = l.length) (h0 : 0 < l.length) : ∃ g c, v = .slice (some ⟨g, 0, none⟩) n c ∧ base ≤ g ∧ g < w.heap.size ∧ n ≤ c ∧ ∀ k (hk : k < l.length), w.cell? ⟨g, k, none⟩ = some (.int .i64 (l[k] : Int)) := by
  rcases h.2 with ⟨h1, h2⟩ | ⟨g, cap, cur, h1, hg, hh, hnc, -⟩
  · omega
  · subst h1
    refine ⟨g, cap, rfl, hg, (Array.getElem?_eq_some_iff.1 hh).1, hnc, fun k hk => ?_⟩
    rw [h.cellAt k (by omega)]
    simp [icells, List.getElem?_eq_getElem hk]

set_option maxHeartbeats 12800000 in
set_option maxRecDepth 100000 in
theorem ch_Best (H : ChAt w S cb vb g n me v t h ps) (hk : NumOk n me) (hS : ∀ j, S j → j < w.heap.size) (hps : ∀ p ∈ ps, PkOk p) (hen : n / 2 + 1 ≤ (whoL h).length) :
    Calls Try.prog 11 #[.pointer (some ⟨cb, 0, none⟩)] w fun x w' => ∃ p d, x = .returned (.tuple #[.agg #[.int .u64 (bestOf ps (whoL h)).l, .int .u64 (bestOf ps (whoL h)).b, .int .u64 (bestOf ps (whoL h)).c, .slice p (bestOf ps (whoL h)).es.length d], .bool true]) ∧
      EntsOwn w' w.heap.size (.slice p (bestOf ps (whoL h)).es.length d) (bestOf ps (whoL h)).es ∧ Below w.heap.size w w' := by
  obtain ⟨hn, m0, m1⟩ := hk
  obtain ⟨wl, hwl⟩ : ∃ l, whoL h = l := ⟨_, rfl⟩
  have hwlt : ∀ i ∈ wl, i < 7 := fun i hi => by rw [← hwl] at hi; have := whoL_lt hi; rw [H.va.m.lh] at this; exact this
  have hw7 : wl.length ≤ 7 := by rw [← hwl]; exact Nat.le_trans (whoL_le h) (by rw [H.va.m.lh]; omega)
  rw [hwl] at hen ⊢
  have hX := (Below.refl w.heap.size w).alloc (Nat.le_refl _) (.cells #[.int .u64 0, .int .u64 0, .int .u64 0, .slice none 0 0] 35)
  have kR := Blk.new w 35 #[.int .u64 0, .int .u64 0, .int .u64 0, .slice none 0 0]
  have HH := Lib.hid (H.below hX)
  have HX := Lib.hid hX
  have KR := Lib.hid kR
  have HS := Lib.hid hS
  have Hps := Lib.hid hps
  have Hwl := Lib.hid hwl
  have Hwlt := Lib.hid hwlt
  have Hlt := Lib.hid H.lt
  obtain ⟨a0, a1, a2, a3, -, hz⟩ := HH.out.cells
  clear H hX kR hS hps hwl hwlt
  go_enter Try.func11, Try.ntmps11
  go_wp2_with fail
  generalize w.alloc (.cells #[.int .u64 0, .int .u64 0, .int .u64 0, .slice none 0 0] 35) = W at *
  refine (ch_none HH.out).mono ?_
  rintro x _ ⟨rfl, rfl⟩
  go_upto_region 3 with fail
  have hS0 : Holds [(cb, 2, .int .u64 v), (cb, 3, .pointer (some ⟨vb, 0, none⟩))] W.drew := ⟨a2, a3, trivial⟩
  have HHd := Lib.hid (HH.out.below (Below.refl _ W).drew)
  have HXd := Lib.hid HX.out.drew
  have KRd := Lib.hid KR.out.drew
  clear HH HX KR a0 a1 a2 a3 hz
  refine begin_D (T := Hold0) [] (by kernel_rfl) hS0 (fun _ => trivial) ?_
  refine take_S (v := ?v0a) 0 rfl (by kernel_rfl) (by kernel_rfl) (by kernel_rfl) (by kernel_rfl) (fun _ _ _ h => h) hS0 (fun _ => trivial) rfl (fun w' hq => ?h0a) ?_
  case h0a => go_simp; try with_reducible rfl
  try simp only [Act.put, List.setIfInBounds_toArray, List.set_cons_zero, List.set_cons_succ, List.getElem_toArray, List.getElem_cons_succ, List.getElem_cons_zero]
  refine take_S (v := ?v1a) 1 rfl (by kernel_rfl) (by kernel_rfl) (by kernel_rfl) (by kernel_rfl) (fun _ _ _ h => h) hS0 (fun _ => trivial) rfl (fun w' hq => ?h1a) ?_
  case h1a => go_simp; try with_reducible rfl
  try simp only [Act.put, List.setIfInBounds_toArray, List.set_cons_zero, List.set_cons_succ, List.getElem_toArray, List.getElem_cons_succ, List.getElem_cons_zero]
  refine take_S (v := ?v2a) 2 rfl (by kernel_rfl) (by kernel_rfl) (by kernel_rfl) (by kernel_rfl) (fun _ _ _ h => h) hS0 (fun _ => trivial) rfl (fun w' hq => ?h2a) ?_
  case h2a => go_simp; try with_reducible rfl
  try simp only [Act.put, List.setIfInBounds_toArray, List.set_cons_zero, List.set_cons_succ, List.getElem_toArray, List.getElem_cons_succ, List.getElem_cons_zero]
  refine take_S (v := ?v3a) 3 rfl (by kernel_rfl) (by kernel_rfl) (by kernel_rfl) (by kernel_rfl) (fun _ _ _ h => h) hS0 (fun _ => trivial) rfl (fun w' hq => ?h3a) ?_
  case h3a => obtain ⟨q0, q1, -⟩ := hq; change _ = some _ at q0; change _ = some _ at q1; go_simp; try with_reducible rfl
  try simp only [Act.put, List.setIfInBounds_toArray, List.set_cons_zero, List.set_cons_succ, List.getElem_toArray, List.getElem_cons_succ, List.getElem_cons_zero]
  refine take_S (v := ?v4a) 4 rfl (by kernel_rfl) (by kernel_rfl) (by kernel_rfl) (by kernel_rfl) (fun _ _ _ h => h) hS0 (fun _ => trivial) rfl (fun w' hq => ?h4a) ?_
  case h4a => go_simp; try with_reducible rfl
  try simp only [Act.put, List.setIfInBounds_toArray, List.set_cons_zero, List.set_cons_succ, List.getElem_toArray, List.getElem_cons_succ, List.getElem_cons_zero]
  refine take_S (v := ?v5a) 5 rfl (by kernel_rfl) (by kernel_rfl) (by kernel_rfl) (by kernel_rfl) (fun _ _ _ h => h) hS0 (fun _ => trivial) rfl (fun w' hq => ?h5a) ?_
  case h5a => go_simp; try with_reducible rfl
  try simp only [Act.put, List.setIfInBounds_toArray, List.set_cons_zero, List.set_cons_succ, List.getElem_toArray, List.getElem_cons_succ, List.getElem_cons_zero]
  refine take_S (v := ?v6a) 6 rfl (by kernel_rfl) (by kernel_rfl) (by kernel_rfl) (by kernel_rfl) (fun _ _ _ h => h) hS0 (fun _ => trivial) rfl (fun w' hq => ?h6a) ?_
  case h6a => go_simp; try with_reducible rfl
  try simp only [Act.put, List.setIfInBounds_toArray, List.set_cons_zero, List.set_cons_succ, List.getElem_toArray, List.getElem_cons_succ, List.getElem_cons_zero]
  refine take_S (v := ?v7a) 7 rfl (by kernel_rfl) (by kernel_rfl) (by kernel_rfl) (by kernel_rfl) (fun _ _ _ h => h) hS0 (fun _ => trivial) rfl (fun w' hq => ?h7a) ?_
  case h7a => obtain ⟨q0, q1, -⟩ := hq; change _ = some _ at q0; change _ = some _ at q1; go_simp; try with_reducible rfl
  try simp only [Act.put, List.setIfInBounds_toArray, List.set_cons_zero, List.set_cons_succ, List.getElem_toArray, List.getElem_cons_succ, List.getElem_cons_zero]
  refine take_S (v := ?v8a) 8 rfl (by kernel_rfl) (by kernel_rfl) (by kernel_rfl) (by kernel_rfl) (fun _ _ _ h => h) hS0 (fun _ => trivial) rfl (fun w' hq => ?h8a) ?_
  case h8a => go_simp; try with_reducible rfl
  try simp only [Act.put, List.setIfInBounds_toArray, List.set_cons_zero, List.set_cons_succ, List.getElem_toArray, List.getElem_cons_succ, List.getElem_cons_zero]
  refine one_D 9 rfl (by kernel_rfl) (fun KQ hK => ?_)
  go_simp
  refine (votes_Who (kd := 2) HHd.out.va (.inr rfl)).mono ?_
  rintro x w1 ⟨pw, dw, rfl, ho, hb⟩
  have hsel : sel 2 t h = h := rfl
  rw [hsel, Hwl.out] at ho ⊢
  have hS1 : Holds [(cb, 2, .int .u64 v), (cb, 3, .pointer (some ⟨vb, 0, none⟩))] w1 := Holds.below_ hS0 hb
  have HH1 := Lib.hid (HHd.out.below hb)
  have HX1 := Lib.hid (HXd.out.trans (hb.mono HXd.out.size))
  have KR1 := Lib.hid (KRd.out.below hb)
  have Ho := Lib.hid (own_base ho (show w.heap.size + 1 ≤ W.drew.heap.size from KRd.out.lt))
  refine hK.out _ _ hS1 (fun _ => trivial) ?_
  clear hK hS0 ho hb hsel HHd HXd KRd
  refine take_S (v := ?v10b) 10 rfl (by kernel_rfl) (by kernel_rfl) (by kernel_rfl) (by kernel_rfl) (fun _ _ _ h => h) hS1 (fun _ => trivial) rfl (fun w' hq => ?h10b) ?_
  case h10b => go_simp; try with_reducible rfl
  try simp only [Act.put, List.setIfInBounds_toArray, List.set_cons_zero, List.set_cons_succ, List.getElem_toArray, List.getElem_cons_succ, List.getElem_cons_zero]
  refine done_D (by kernel_rfl) ?_ _
  clear hS1
  obtain ⟨wg, wc, hwv, hwg, hwgl, hwn, hwcell⟩ := row_int Ho.out rfl (by omega)
  rw [hwv]
  obtain ⟨a0, a1, a2, a3, -, hz⟩ := HH1.out.cells
  have hdl : decide ((wl.length : Int) < n / 2 + 1) = false := by simp; omega
  go_wp2_with fail
  refine (votes_Most (by omega) (by omega)).mono ?_
  rintro x _ ⟨rfl, rfl⟩
  go_upto_region 6 with fail
  obtain ⟨i0, hi0⟩ : ∃ i, wl.headD 0 = i := ⟨_, rfl⟩
  have hwl0 : 0 < wl.length := by omega
  have hi0e : wl[0] = i0 := by rw [← hi0]; cases wl with | nil => simp at hwl0 | cons a l => rfl
  have hi07 : i0 < 7 := Hwlt.out i0 (by rw [← hi0e]; exact List.getElem_mem hwl0)
  have hi7 : (i0 : Int) < 7 := by omega
  obtain ⟨s0, z0, z1, z2, z3, hrs⟩ := HH1.out.packD hi07
  have hc0 := hwcell 0 hwl0
  rw [hi0e] at hc0
  have Hrow := Lib.hid hwcell
  have Hrs := Lib.hid hrs
  have Hi0 := Lib.hid hi0
  have Hok0 := Lib.hid (pk_at Hps.out i0)
  clear hwcell hrs hi0 hi0e a0 a1 a2 a3
  obtain ⟨q0, hq0⟩ : ∃ q, ps.getD i0 noPk = q := ⟨_, rfl⟩
  rw [hq0] at z0 z1 z2 Hrs Hok0
  have Hq0 := Lib.hid hq0
  clear hq0
  obtain ⟨sp, sd, rfl⟩ : ∃ p c, s0 = .slice p q0.es.length c := by obtain ⟨_, hr, _⟩ := Hrs.out; exact Rd.slice hr
  go_cut [5, 6] (fun tb tc wx => ∃ (bb bc : Nat), tb = .pointer (some ⟨bb, 0, none⟩) ∧ tc = .pointer (some ⟨bc, 0, none⟩) ∧ Hid (BestSt w S cb vb g n me v t h ps wg wl bb bc 0 q0 (.slice sp q0.es.length sd) wx))
  case first =>
    have hS6w : Holds [(wg, 0, .int .i64 (i0 : Int)), (cb, 4 + i0 * 4, .int .u64 q0.l), (cb, 4 + i0 * 4 + 1, .int .u64 q0.b), (cb, 4 + i0 * 4 + 2, .int .u64 q0.c), (cb, 4 + i0 * 4 + 3, .slice sp q0.es.length sd)] w1 := ⟨hc0, z0, z1, z2, z3, trivial⟩
    have HS6 := Lib.hid hS6w
    have hS6 : Holds [(wg, 0, .int .i64 (i0 : Int)), (cb, 4 + i0 * 4, .int .u64 q0.l), (cb, 4 + i0 * 4 + 1, .int .u64 q0.b), (cb, 4 + i0 * 4 + 2, .int .u64 q0.c), (cb, 4 + i0 * 4 + 3, .slice sp q0.es.length sd)] w1.drew := Holds.below_ hS6w (Below.refl _ w1).drew
    clear hS6w hc0 z0 z1 z2 z3
    refine begin_D (T := Hold0) [] (by kernel_rfl) hS6 (fun _ => trivial) ?_
    refine take_S (v := ?v0d) 0 rfl (by kernel_rfl) (by kernel_rfl) (by kernel_rfl) (by kernel_rfl) (fun _ _ _ h => h) hS6 (fun _ => trivial) rfl (fun w' hq => ?h0d) ?_
    case h0d => go_simp; try with_reducible rfl
    try simp only [Act.put, List.setIfInBounds_toArray, List.set_cons_zero, List.set_cons_succ, List.getElem_toArray, List.getElem_cons_succ, List.getElem_cons_zero]
    refine take_S (v := ?v1d) 1 rfl (by kernel_rfl) (by kernel_rfl) (by kernel_rfl) (by kernel_rfl) (fun _ _ _ h => h) hS6 (fun _ => trivial) rfl (fun w' hq => ?h1d) ?_
    case h1d => go_simp; try with_reducible rfl
    try simp only [Act.put, List.setIfInBounds_toArray, List.set_cons_zero, List.set_cons_succ, List.getElem_toArray, List.getElem_cons_succ, List.getElem_cons_zero]
    refine take_S (v := ?v2d) 2 rfl (by kernel_rfl) (by kernel_rfl) (by kernel_rfl) (by kernel_rfl) (fun _ _ _ h => h) hS6 (fun _ => trivial) rfl (fun w' hq => ?h2d) ?_
    case h2d => go_simp; try with_reducible rfl
    try simp only [Act.put, List.setIfInBounds_toArray, List.set_cons_zero, List.set_cons_succ, List.getElem_toArray, List.getElem_cons_succ, List.getElem_cons_zero]
    refine take_S (v := ?v3d) 3 rfl (by kernel_rfl) (by kernel_rfl) (by kernel_rfl) (by kernel_rfl) (fun _ _ _ h => h) hS6 (fun _ => trivial) rfl (fun w' hq => ?h3d) ?_
    case h3d => obtain ⟨q0, q1, q2, q3, q4, -⟩ := hq; change _ = some _ at q0; change _ = some _ at q1; change _ = some _ at q2; change _ = some _ at q3; change _ = some _ at q4; go_simp; try with_reducible rfl
    try simp only [Act.put, List.setIfInBounds_toArray, List.set_cons_zero, List.set_cons_succ, List.getElem_toArray, List.getElem_cons_succ, List.getElem_cons_zero]
    refine take_S (v := ?v4d) 4 rfl (by kernel_rfl) (by kernel_rfl) (by kernel_rfl) (by kernel_rfl) (fun _ _ _ h => h) hS6 (fun _ => trivial) rfl (fun w' hq => ?h4d) ?_
    case h4d => go_simp; try with_reducible rfl
    try simp only [Act.put, List.setIfInBounds_toArray, List.set_cons_zero, List.set_cons_succ, List.getElem_toArray, List.getElem_cons_succ, List.getElem_cons_zero]
    refine take_S (v := ?v5d) 5 rfl (by kernel_rfl) (by kernel_rfl) (by kernel_rfl) (by kernel_rfl) (fun _ _ _ h => h) hS6 (fun _ => trivial) rfl (fun w' hq => ?h5d) ?_
    case h5d => go_simp; try with_reducible rfl
    try simp only [Act.put, List.setIfInBounds_toArray, List.set_cons_zero, List.set_cons_succ, List.getElem_toArray, List.getElem_cons_succ, List.getElem_cons_zero]
    refine take_S (v := ?v6d) 6 rfl (by kernel_rfl) (by kernel_rfl) (by kernel_rfl) (by kernel_rfl) (fun _ _ _ h => h) hS6 (fun _ => trivial) rfl (fun w' hq => ?h6d) ?_
    case h6d => go_simp; try with_reducible rfl
    try simp only [Act.put, List.setIfInBounds_toArray, List.set_cons_zero, List.set_cons_succ, List.getElem_toArray, List.getElem_cons_succ, List.getElem_cons_zero]
    refine take_S (v := ?v7d) 7 rfl (by kernel_rfl) (by kernel_rfl) (by kernel_rfl) (by kernel_rfl) (fun _ _ _ h => h) hS6 (fun _ => trivial) rfl (fun w' hq => ?h7d) ?_
    case h7d => obtain ⟨q0, q1, q2, q3, q4, -⟩ := hq; change _ = some _ at q0; change _ = some _ at q1; change _ = some _ at q2; change _ = some _ at q3; change _ = some _ at q4; go_simp; try with_reducible rfl
    try simp only [Act.put, List.setIfInBounds_toArray, List.set_cons_zero, List.set_cons_succ, List.getElem_toArray, List.getElem_cons_succ, List.getElem_cons_zero]
    refine two_D 8 9 rfl rfl (by kernel_rfl) (fun KQ hK => ?_) (fun KQ hK => ?_)
    · go_simp
      have hb8 := (Below.refl w1.heap.size w1).alloc (Nat.le_refl _) (.cells #[.int .u64 0, .int .u64 0, .int .u64 0, .slice none 0 0] 35)
      have hz8 : (w1.alloc (.cells #[.int .u64 0, .int .u64 0, .int .u64 0, .slice none 0 0] 35)).heap.size = w1.heap.size + 1 := World.size_alloc _ _
      have hb9 := hb8.alloc hb8.size (.cells #[.int .u64 0] 28)
      have hS8 : Holds [(wg, 0, .int .i64 (i0 : Int)), (cb, 4 + i0 * 4, .int .u64 q0.l), (cb, 4 + i0 * 4 + 1, .int .u64 q0.b), (cb, 4 + i0 * 4 + 2, .int .u64 q0.c), (cb, 4 + i0 * 4 + 3, .slice sp q0.es.length sd)] (w1.alloc (.cells #[.int .u64 0, .int .u64 0, .int .u64 0, .slice none 0 0] 35)).drew := Holds.below_ HS6.out hb8.drew
      have hS9 : Holds [(wg, 0, .int .i64 (i0 : Int)), (cb, 4 + i0 * 4, .int .u64 q0.l), (cb, 4 + i0 * 4 + 1, .int .u64 q0.b), (cb, 4 + i0 * 4 + 2, .int .u64 q0.c), (cb, 4 + i0 * 4 + 3, .slice sp q0.es.length sd)] ((w1.alloc (.cells #[.int .u64 0, .int .u64 0, .int .u64 0, .slice none 0 0] 35)).alloc (.cells #[.int .u64 0] 28)).drew := Holds.below_ HS6.out hb9.drew
      refine hK.out _ _ hS8 (fun _ => trivial) ?_
      clear hK
      refine one_D 9 rfl (by kernel_rfl) (fun KQ hK => ?_)
      go_simp
      refine hK.out _ _ hS9 (fun _ => trivial) ?_
      clear hK
      refine one_D 10 rfl (by kernel_rfl) (fun KQ hK => ?_)
      go_simp
      have hb8 := (Below.refl w1.heap.size w1).alloc (Nat.le_refl _) (.cells #[.int .u64 q0.l, .int .u64 q0.b, .int .u64 q0.c, .slice sp q0.es.length sd] 35)
      have hz8 : (w1.alloc (.cells #[.int .u64 q0.l, .int .u64 q0.b, .int .u64 q0.c, .slice sp q0.es.length sd] 35)).heap.size = w1.heap.size + 1 := World.size_alloc _ _
      have hb9 := hb8.alloc hb8.size (.cells #[.int .u64 0] 28)
      have hS10 : Holds [(wg, 0, .int .i64 (i0 : Int)), (cb, 4 + i0 * 4, .int .u64 q0.l), (cb, 4 + i0 * 4 + 1, .int .u64 q0.b), (cb, 4 + i0 * 4 + 2, .int .u64 q0.c), (cb, 4 + i0 * 4 + 3, .slice sp q0.es.length sd)] ((w1.alloc (.cells #[.int .u64 q0.l, .int .u64 q0.b, .int .u64 q0.c, .slice sp q0.es.length sd] 35)).alloc (.cells #[.int .u64 0] 28)).drew := Holds.below_ HS6.out hb9.drew
      have hB : BestSt w S cb vb g n me v t h ps wg wl w1.heap.size (w1.heap.size + 1) 0 q0 (.slice sp q0.es.length sd) ((w1.alloc (.cells #[.int .u64 q0.l, .int .u64 q0.b, .int .u64 q0.c, .slice sp q0.es.length sd] 35)).alloc (.cells #[.int .u64 0] 28)).drew := by
        refine ⟨HX1.out.trans (hb9.drew.mono HX1.out.size), HH1.out.below hb9.drew, KR1.out.below hb9.drew, fun k hk => (hb9.drew.cell (p := ⟨wg, k, none⟩) hwgl).trans (Hrow.out k hk), (Blk.new w1 _ _).alloc (.cells #[.int .u64 0] 28), by have h := Blk.new (w1.alloc (.cells #[.int .u64 q0.l, .int .u64 q0.b, .int .u64 q0.c, .slice sp q0.es.length sd] 35)) 28 #[.int .u64 0]; rw [hz8] at h; exact h, Hrs.out.below hb9.drew, ⟨?_, ?_, ?_, ?_, ?_⟩, Hok0.out⟩
        all_goals first | (have := HX1.out.size; have := KR1.out.lt; have := hb9.size; omega) | (have := HX1.out.size; have := KR1.out.lt; have := hb9.size; show wg < ((w1.alloc (.cells #[.int .u64 q0.l, .int .u64 q0.b, .int .u64 q0.c, .slice sp q0.es.length sd] 35)).alloc (.cells #[.int .u64 0] 28)).heap.size; omega)
      have HB := Lib.hid hB
      refine hK.out _ _ hS10 (fun _ => trivial) ?_
      clear hK hB
      refine one_D 11 rfl (by kernel_rfl) (fun KQ hK => ?_)
      go_simp
      refine hK.out _ _ hS10 (fun _ => trivial) ?_
      clear hK
      refine done_D (by kernel_rfl) ?_ _
      clear hS8 hS9 hS10
      go_wp2_with fail
      go_meet
      case rel => exact ⟨w1.heap.size, (w1.heap.size + 1), rfl, rfl, HB⟩
    · go_simp
      have hb8 := (Below.refl w1.heap.size w1).alloc (Nat.le_refl _) (.cells #[.int .u64 0] 28)
      have hz8 : (w1.alloc (.cells #[.int .u64 0] 28)).heap.size = w1.heap.size + 1 := World.size_alloc _ _
      have hb9 := hb8.alloc hb8.size (.cells #[.int .u64 0, .int .u64 0, .int .u64 0, .slice none 0 0] 35)
      have hS8 : Holds [(wg, 0, .int .i64 (i0 : Int)), (cb, 4 + i0 * 4, .int .u64 q0.l), (cb, 4 + i0 * 4 + 1, .int .u64 q0.b), (cb, 4 + i0 * 4 + 2, .int .u64 q0.c), (cb, 4 + i0 * 4 + 3, .slice sp q0.es.length sd)] (w1.alloc (.cells #[.int .u64 0] 28)).drew := Holds.below_ HS6.out hb8.drew
      have hS9 : Holds [(wg, 0, .int .i64 (i0 : Int)), (cb, 4 + i0 * 4, .int .u64 q0.l), (cb, 4 + i0 * 4 + 1, .int .u64 q0.b), (cb, 4 + i0 * 4 + 2, .int .u64 q0.c), (cb, 4 + i0 * 4 + 3, .slice sp q0.es.length sd)] ((w1.alloc (.cells #[.int .u64 0] 28)).alloc (.cells #[.int .u64 0, .int .u64 0, .int .u64 0, .slice none 0 0] 35)).drew := Holds.below_ HS6.out hb9.drew
      refine hK.out _ _ hS8 (fun _ => trivial) ?_
      clear hK
      refine one_D 8 rfl (by kernel_rfl) (fun KQ hK => ?_)
      go_simp
      refine hK.out _ _ hS9 (fun _ => trivial) ?_
      clear hK
      refine one_D 10 rfl (by kernel_rfl) (fun KQ hK => ?_)
      go_simp
      have hb8 := (Below.refl w1.heap.size w1).alloc (Nat.le_refl _) (.cells #[.int .u64 0] 28)
      have hz8 : (w1.alloc (.cells #[.int .u64 0] 28)).heap.size = w1.heap.size + 1 := World.size_alloc _ _
      have hb9 := hb8.alloc hb8.size (.cells #[.int .u64 q0.l, .int .u64 q0.b, .int .u64 q0.c, .slice sp q0.es.length sd] 35)
      have hS10 : Holds [(wg, 0, .int .i64 (i0 : Int)), (cb, 4 + i0 * 4, .int .u64 q0.l), (cb, 4 + i0 * 4 + 1, .int .u64 q0.b), (cb, 4 + i0 * 4 + 2, .int .u64 q0.c), (cb, 4 + i0 * 4 + 3, .slice sp q0.es.length sd)] ((w1.alloc (.cells #[.int .u64 0] 28)).alloc (.cells #[.int .u64 q0.l, .int .u64 q0.b, .int .u64 q0.c, .slice sp q0.es.length sd] 35)).drew := Holds.below_ HS6.out hb9.drew
      have hB : BestSt w S cb vb g n me v t h ps wg wl (w1.heap.size + 1) w1.heap.size 0 q0 (.slice sp q0.es.length sd) ((w1.alloc (.cells #[.int .u64 0] 28)).alloc (.cells #[.int .u64 q0.l, .int .u64 q0.b, .int .u64 q0.c, .slice sp q0.es.length sd] 35)).drew := by
        refine ⟨HX1.out.trans (hb9.drew.mono HX1.out.size), HH1.out.below hb9.drew, KR1.out.below hb9.drew, fun k hk => (hb9.drew.cell (p := ⟨wg, k, none⟩) hwgl).trans (Hrow.out k hk), by have h := Blk.new (w1.alloc (.cells #[.int .u64 0] 28)) 35 #[.int .u64 q0.l, .int .u64 q0.b, .int .u64 q0.c, .slice sp q0.es.length sd]; rw [hz8] at h; exact h, (Blk.new w1 _ _).alloc (.cells #[.int .u64 q0.l, .int .u64 q0.b, .int .u64 q0.c, .slice sp q0.es.length sd] 35), Hrs.out.below hb9.drew, ⟨?_, ?_, ?_, ?_, ?_⟩, Hok0.out⟩
        all_goals first | (have := HX1.out.size; have := KR1.out.lt; have := hb9.size; omega) | (have := HX1.out.size; have := KR1.out.lt; have := hb9.size; show wg < ((w1.alloc (.cells #[.int .u64 0] 28)).alloc (.cells #[.int .u64 q0.l, .int .u64 q0.b, .int .u64 q0.c, .slice sp q0.es.length sd] 35)).heap.size; omega)
      have HB := Lib.hid hB
      refine hK.out _ _ hS10 (fun _ => trivial) ?_
      clear hK hB
      refine one_D 11 rfl (by kernel_rfl) (fun KQ hK => ?_)
      go_simp
      refine hK.out _ _ hS10 (fun _ => trivial) ?_
      clear hK
      refine done_D (by kernel_rfl) ?_ _
      clear hS8 hS9 hS10
      go_wp2_with fail
      go_meet
      case rel => exact ⟨(w1.heap.size + 1), w1.heap.size, rfl, rfl, HB⟩
  case rest =>
    obtain ⟨bb, bc, rfl, rfl, hB⟩ := hcut
    clear hc0 z0 z1 z2 z3
    go_wp2_with fail
    go_loopw [9, 43] (fun _ i wr => ∃ k : Nat, k ≤ wl.length ∧ i = .int .i64 k ∧ Hid (∃ s, BestSt w S cb vb g n me v t h ps wg wl bb bc (looks ps (wl.take k) (0, q0)).1 (looks ps (wl.take k) (0, q0)).2 s wr)) (fun _ i _ => wl.length - (intOf i).toNat)
    case atStart => exact ⟨0, Nat.zero_le _, rfl, Lib.hid ⟨_, hB.out⟩⟩
    case round =>
      obtain ⟨k, hk, rfl, hR⟩ := hrel
      obtain ⟨cm, q, hcq⟩ : ∃ cm q, looks ps (wl.take k) (0, q0) = (cm, q) := ⟨_, _, rfl⟩
      rw [hcq] at hR
      by_cases hlt : k < wl.length
      · obtain ⟨s1, hs1⟩ := hR.out
        have hsucc := looks_succ (ps := ps) hlt (0, q0)
        rw [hcq] at hsucc
        have Hsucc := Lib.hid hsucc
        have hn7 : wl[k] < 7 := Hwlt.out _ (List.getElem_mem hlt)
        have hrow := hs1.row k hlt
        have Hok := Lib.hid (pk_at Hps.out wl[k])
        obtain ⟨s2, z0, z1, z2, z3, hr2⟩ := hs1.H.packD hn7
        have Hr2 := Lib.hid hr2
        have HB := Lib.hid hs1
        clear hsucc hcq hs1 hr2 hR
        generalize wl[k] = nd at *
        generalize ps.getD nd noPk = p at *
        obtain ⟨sp2, sd2, rfl⟩ : ∃ x c, s2 = .slice x p.es.length c := by obtain ⟨_, hr, _⟩ := Hr2.out; exact Rd.slice hr
        have hnd7 : (nd : Int) < 7 := by omega
        have hzw := HB.out.ne.2.2.2.2
        have hwn : wl.length ≤ dw := by omega
        go_wp2_with fail
        refine (ch_look (p := p) (q := q) (cm := cm) HB.out.kc HB.out.kb Hok.out HB.out.ok Hr2.out HB.out.r).mono ?_
        rintro _ w3 ⟨rfl, hc, ⟨s', hkb, hs'⟩, hE⟩
        have hr' : EntsRd wr S s' (look p (cm, q)).2.es := by
          rcases hs' with ⟨rfl, e⟩ | ⟨rfl, e⟩
          · rw [e]; exact Hr2.out
          · rw [e]; exact HB.out.r
        have hok' : PkOk (look p (cm, q)).2 := by
          rcases look_mem (p := p) (s := (cm, q)) with e | e
          · rw [e]; exact Hok.out
          · rw [e]; exact HB.out.ok
        have hst := HB.out.step hE HS.out Hlt.out hkb hc hr' hok'
        have HB3 := Lib.hid hst
        clear hc hkb hs' hE hr' hok' hst HB Hr2 z0 z1 z2 z3 hrow hzw
        go_wp2_with fail
        go_roundw
        case rel => exact ⟨k + 1, by omega, by go_num, Lib.hid ⟨s', by rw [Hsucc.out]; exact HB3.out⟩⟩
        case measure => simp [intOf] <;> omega
      · obtain rfl : k = wl.length := by omega
        rw [List.take_length] at hcq
        have Hcq := Lib.hid hcq
        obtain ⟨s1, hB1⟩ := hR.out
        obtain ⟨x1, d1, rfl⟩ : ∃ x c, s1 = .slice x q.es.length c := by obtain ⟨_, hr, _⟩ := hB1.r; exact Rd.slice hr
        have HB := Lib.hid hB1
        obtain ⟨b0, b1, b2, b3, g0, g1, g2, g3, hzb⟩ := HB.out.kb.c4
        have hq64 := HB.out.ok.parts.1
        clear hcq hR hB1 hB
        go_wp2_with fail
        refine (ch_own (S := S) (l := q.l) (b := q.b) (c := q.c) HB.out.r HB.out.ok.parts.2.2.1 (by omega) (fun j hj => by have := HS.out j hj; have := HB.out.X.size; omega)).mono ?_
        rintro _ w4 ⟨p4, d4, rfl, ho4, hb4⟩
        have KC4 := Lib.hid (HB.out.kc.below hb4)
        have KB4 := Lib.hid (HB.out.kb.below hb4)
        have KR4 := Lib.hid (HB.out.kR.below hb4)
        have HX4 := Lib.hid (HB.out.X.trans (hb4.mono HB.out.X.size))
        have HO4 := Lib.hid (ho4.base HB.out.X.size)
        have Hne := Lib.hid (And.intro HB.out.ne HB.out.ok)
        have Hcb := Lib.hid (HB.out.kc.ne_ HB.out.kb (by decide))
        clear ho4 hb4 b0 b1 b2 b3 g0 g1 g2 g3 hzb HB
        obtain ⟨b0, b1, b2, b3, g0, g1, g2, g3, hzb⟩ := KB4.out.c4
        go_upto_region 14 with fail
        have kB5 := Blk.set4 (a' := .int .u64 q.l) (b' := .int .u64 q.b) (c' := .int .u64 q.c) (d' := .slice p4 q.es.length d4) KB4.out
        have hE5 := (Ext.refl (fun j => j = bb) w4).sets4 (g := bb) (i := 0) (j := 1) (k := 2) (l := 3) rfl (a0 := .int .u64 q.l) (a1 := .int .u64 q.b) (a2 := .int .u64 q.c) (a3 := .slice p4 q.es.length d4)
        have kC5 := KC4.out.ext hE5 Hcb.out
        have kR5 := KR4.out.ext hE5 (by have := Hne.out.1; omega)
        have hX5 := Ext.from HX4.out hE5 (fun j hj => by have := Hne.out.1; omega)
        have hO5 := EntsOwn.setsR HO4.out KB4.out (a0 := .int .u64 q.l) (a1 := .int .u64 q.b) (a2 := .int .u64 q.c) (a3 := .slice p4 q.es.length d4)
        have KB5 := Lib.hid kB5
        have KC5 := Lib.hid kC5
        have KR5 := Lib.hid kR5
        have HX5 := Lib.hid hX5
        have HO5 := Lib.hid hO5
        clear kB5 hE5 kC5 kR5 hX5 hO5 KB4 KC4 KR4 HX4 HO4 b0 b1 b2 b3 g0 g1 g2 g3 hzb
        generalize (((w4.setCell ⟨bb, 0, none⟩ (.int .u64 q.l)).setCell ⟨bb, 1, none⟩ (.int .u64 q.b)).setCell ⟨bb, 2, none⟩ (.int .u64 q.c)).setCell ⟨bb, 3, none⟩ (.slice p4 q.es.length d4) = W5 at *
        obtain ⟨X, hX⟩ : ∃ X, (if q.op < cm then q.op else cm) = X := ⟨_, rfl⟩
        have HXe := Lib.hid hX
        have hS5 : Holds [(bc, 0, .int .u64 cm), (bb, 0, .int .u64 q.l), (bb, 1, .int .u64 q.b), (bb, 3, .slice p4 q.es.length d4)] W5.drew := ⟨KC5.out.cell 0, KB5.out.cell 0, KB5.out.cell 1, KB5.out.cell 3, trivial⟩
        have hT5 : Hold1 (bb, 2, .int .u64 q.c) W5.drew := KB5.out.cell 2
        refine begin_D (T := Hold1 (bb, 2, .int .u64 q.c)) [5] (by kernel_rfl) hS5 (fun _ => hT5) ?_
        refine take_S (v := ?v0f) 0 rfl (by kernel_rfl) (by kernel_rfl) (by kernel_rfl) (by kernel_rfl) (fun _ _ _ h => h) hS5 (fun _ => hT5) rfl (fun w' hq => ?h0f) ?_
        case h0f => obtain ⟨u0, u1, u2, u3, -⟩ := hq; change _ = some _ at u0; change _ = some _ at u1; change _ = some _ at u2; change _ = some _ at u3; go_simp; try with_reducible rfl
        try simp only [Act.put, List.setIfInBounds_toArray, List.set_cons_zero, List.set_cons_succ, List.getElem_toArray, List.getElem_cons_succ, List.getElem_cons_zero]
        refine take_T (v := ?v1f) 1 rfl (by kernel_rfl) (by kernel_rfl) (by kernel_rfl) (by kernel_rfl) (by kernel_rfl) (by kernel_rfl) (fun _ _ _ h => h) hS5 (fun _ => hT5) rfl (fun w' hq hr => ?h1f) ?_
        case h1f => obtain ⟨hq0, hq1, hq2, hq3, -⟩ := hq; change _ = some _ at hq0; change _ = some _ at hq1; change _ = some _ at hq2; change _ = some _ at hq3; change _ = some _ at hr; go_simp; try with_reducible rfl
        try simp only [Act.put, List.setIfInBounds_toArray, List.set_cons_zero, List.set_cons_succ, List.getElem_toArray, List.getElem_cons_succ, List.getElem_cons_zero]
        refine one_D 2 rfl (by kernel_rfl) (fun KQ hK => ?_)
        go_simp
        refine (pack_Op (a := q.l) (b := q.b) (c := q.c) (p := p4) (n := q.es.length) (k := d4) (by omega)).mono ?_
        rintro x w6 ⟨rfl, hb⟩
        rw [Hne.out.2.wrap]
        have hb6 : Below W5.heap.size W5 w6 := (Below.refl _ W5).drew.trans hb
        have hS6 : Holds [(bc, 0, .int .u64 cm), (bb, 0, .int .u64 q.l), (bb, 1, .int .u64 q.b), (bb, 3, .slice p4 q.es.length d4)] w6 := Holds.below_ hS5 hb
        have hT6 : Hold1 (bb, 2, .int .u64 q.c) w6 := (hb.cell (p := ⟨bb, 2, none⟩) KB5.out.lt).trans hT5
        have KB6 := Lib.hid (KB5.out.below hb6)
        have KC6 := Lib.hid (KC5.out.below hb6)
        have KR6 := Lib.hid (KR5.out.below hb6)
        have HX6 := Lib.hid (HX5.out.trans (hb6.mono HX5.out.size))
        have HO6 := Lib.hid (HO5.out.below hb6)
        refine hK.out _ _ hS6 (fun _ => hT6) ?_
        clear hK hS5 hT5 hb hb6 KB5 KC5 KR5 HX5 HO5
        refine take_S (v := (.int .u64 X)) 3 rfl (by kernel_rfl) (by kernel_rfl) (by kernel_rfl) (by kernel_rfl) (fun _ _ _ h => h) hS6 (fun _ => hT6) rfl (fun w' hq => ?h3f) ?_
        case h3f => go_simp; try with_reducible rfl
        try simp only [Act.put, List.setIfInBounds_toArray, List.set_cons_zero, List.set_cons_succ, List.getElem_toArray, List.getElem_cons_succ, List.getElem_cons_zero]
        refine take_S (v := ?v4f) 4 rfl (by kernel_rfl) (by kernel_rfl) (by kernel_rfl) (by kernel_rfl) (fun _ _ _ h => h) hS6 (fun _ => hT6) rfl (fun w' hq => ?h4f) ?_
        case h4f => go_simp; try with_reducible rfl
        try simp only [Act.put, List.setIfInBounds_toArray, List.set_cons_zero, List.set_cons_succ, List.getElem_toArray, List.getElem_cons_succ, List.getElem_cons_zero]
        have hcell2 := hT6
        change _ = some _ at hcell2
        have hfr2 := KB6.out.frozen 2
        have kB7 : Blk (w6.setCell ⟨bb, 2, none⟩ (.int .u64 X)) bb 35 #[.int .u64 q.l, .int .u64 q.b, .int .u64 X, .slice p4 q.es.length d4] := by simpa using KB6.out.set_ 2 (.int .u64 X)
        have kC7 := KC6.out.far (p := ⟨bb, 2, none⟩) Hcb.out (.int .u64 X)
        have kR7 := KR6.out.far (p := ⟨bb, 2, none⟩) (by have := Hne.out.1; show w.heap.size ≠ bb; omega) (.int .u64 X)
        have hS7 : Holds [(bc, 0, .int .u64 cm), (bb, 0, .int .u64 q.l), (bb, 1, .int .u64 q.b), (bb, 3, .slice p4 q.es.length d4)] (w6.setCell ⟨bb, 2, none⟩ (.int .u64 X)) := ⟨kC7.cell 0, kB7.cell 0, kB7.cell 1, kB7.cell 3, trivial⟩
        have KB7 := Lib.hid kB7
        have KR7 := Lib.hid kR7
        have HX7 := Lib.hid (HX6.out.setCell (p := ⟨bb, 2, none⟩) (by have := Hne.out.1; show w.heap.size ≤ bb; omega) (.int .u64 X))
        have HO7 := Lib.hid (HO6.out.set_ KB6.out (by decide) (by decide) 2 (.int .u64 X))
        clear kB7 kC7 kR7
        refine one_D 5 rfl (by kernel_rfl) (fun KQ hK => ?_)
        go_simp
        refine hK.out _ _ hS7 (fun h => absurd h (by decide)) ?_
        clear hK hS6 hT6 hcell2 hfr2 hX KB6 KC6 KR6 HX6 HO6
        refine done_D (by kernel_rfl) ?_ _
        clear hS7
        obtain ⟨b0, b1, b2, b3, -⟩ := KB7.out.c4
        obtain ⟨r0, r1, r2, r3, f0, f1, f2, f3, hz0⟩ := KR7.out.c4
        have hbest : bestOf ps wl = { q with c := X } := by
          unfold bestOf
          rw [Hi0.out, Hq0.out, Hcq.out]
          simp only
          rw [show (if cm < q.op then cm else q.op) = X by rw [← HXe.out]; split <;> split <;> omega]
        have Hbest := Lib.hid hbest
        clear hbest
        go_wp2_with fail
        refine bodyPost_ret (v := .tuple #[.agg #[.int .u64 q.l, .int .u64 q.b, .int .u64 X, .slice p4 q.es.length d4], .bool true]) (by simp [results, Try.results11, go_sem, r0, r1, r2, r3]) rfl ?_
        rw [Hbest.out]
        exact ⟨p4, d4, rfl, EntsOwn.setsR HO7.out KR7.out, Below.sets4 HX7.out (Nat.le_refl _)⟩
end
end Go.Proofs.Ytgmekodfkhihiaa
