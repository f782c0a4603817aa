/-
  The reference of layer 18: what its log reads as; contracts of Own, Op, within.
-/
import Derived.Test.YtmoifhoncanjjaaLog
import Derived.Test.YtmoifhoncanjjaaOrd
import Derived.Laws.AppendOwnNone
namespace Go.Proofs.Ytmoifhoncanjjaa
open Go.RowKit
set_option linter.unusedSimpArgs false

/-- No spare places behind nil. -/
def NilOk (v : Value) : Prop := ∀ n c, v = .slice none n c → c = 0
theorem NilOk.own {w : World} {base sz n : Nat} {e : TypeId} {s : Value} {cs : List Value} (h : w.ownsRow base e sz s n cs) : NilOk s := by
  intro n c hs
  rcases h.2 with ⟨h1, _⟩ | ⟨g, cap, cur, h1, _⟩
  · rw [hs] at h1; injection h1 with _ _ h1
  · rw [hs] at h1; cases h1
theorem NilOk.some {a : Addr} {n c : Nat} : NilOk (.slice (some a) n c) := by intro n c h; cases h
theorem NilOk.nil : NilOk (.slice none 0 0) := by intro n c h; injection h with _ _ h; exact h.symm

/-- An append of a slice that reads so onto a row of the call's own. -/
theorem wpList_append_N {w : World} {ops : Array Oper} {rest : List Oper} {o : Oper} {a : Act} {Q : Exit → Act → World → Prop} (hgd : o.guard = none) (s x : Operand) (t : TypeId)
    (ho : o.op = .call { callee := .builtin .append, args := #[s, x], argTypes := #[t, t] }) (base : Nat) (e : TypeId) (z : Value) (sz by_ : Nat) (hu : Try.prog.underlying t = some (.slice e))
    (hI : (Try.prog.info? e).map (fun i => (i.zero, i.size, i.bytes)) = some (some z, sz, by_)) (hzs : z.cells.size = sz) (hsz : 0 < sz)
    (v : Value) (n : Nat) (xs : List Value) (S : Nat → Prop) (hs : a.eval s = v) (hown : w.ownsRow base e sz v n xs)
    (p : Option Addr) (m c : Nat) (news : List Value) (hx : a.eval x = .slice p m c) (hr : Rd w S sz (.slice p m c) m news) (h1 : ∀ u ∈ news, u.oneCell' = true) (hnil : NilOk (.slice p m c)) (hl : n + m ≤ maxLen) (hb : (n + m) * by_ ≤ 140737488355328) (hbase : base ≤ w.heap.size)
    (h : ∀ v' w', w'.ownsRow base e sz v' (n + m) (xs ++ news) → w.grownBy w' v.ownBlock → wpList Try.prog ops Q rest (a.put o.dst v') w') : wpList Try.prog ops Q (o :: rest) a w := by
  obtain ⟨i0, hi, hz0, hz1, hz2⟩ := info_parts hI
  cases p with
  | none =>
    obtain rfl : m = 0 := by
      rcases Nat.eq_zero_or_pos m with h0 | h0
      · exact h0
      · obtain ⟨b, off, h', _⟩ := Rd.addr hr h0; cases h'
    obtain rfl : news = [] := List.eq_nil_of_length_eq_zero (by simpa using hr.1)
    obtain rfl : c = 0 := hnil _ _ rfl
    exact wpList_append_own_none hgd s x t ho base e i0 sz hu hi v n xs hs hown hx (h v w (by simpa using hown) (World.grownBy.refl _ _))
  | some ad =>
    refine wpList_append_own w hgd s x t ho base e i0 z sz by_ hu hi hz0 hz1 hz2 hzs hsz v n xs hs hown ad m c news hx hr.1 ?_ h1 hl hb hbase fun v' w' a b _ => h v' w' a b
    intro j u hu
    have hj : j < m * sz := by have := (List.getElem?_eq_some_iff.1 hu).1; rw [hr.1] at this; exact this
    have hm : 0 < m := by
      rcases Nat.eq_zero_or_pos m with h0 | h0
      · subst h0; simp at hj
      · exact h0
    obtain ⟨b, off, he, _, _, hc⟩ := Rd.addr hr hm
    injection he with he
    subst he
    have := hc j u hu
    rw [show (⟨b, off, none⟩ : Addr).add j = ⟨b, off + j, none⟩ from by unfold Addr.add; split <;> simp_all]
    exact this

/-- A command's slice that reads so; nil has no spare places. -/
def CmdN (w : World) (S : Nat → Prop) (s : Value) (b : List UInt8) : Prop := CmdRd w S s b ∧ NilOk s
theorem CmdN.one {w : World} {S : Nat → Prop} (s : Value) (b : List UInt8) (h : CmdN w S s b) : s.oneCell' = true := CmdRd.one s b h.1
theorem CmdN.keep {w w' : World} {S S' : Nat → Prop} {s : Value} {b : List UInt8} (h : CmdN w S s b) (hk : ∀ k, k < w.heap.size → S k → w'.heap[k]? = w.heap[k]?) (hs : ∀ k, S k → k < w.heap.size → S' k) : CmdN w' S' s b := ⟨Rd.keep h.1 hk hs (by decide), h.2⟩
theorem CmdN.own {w : World} {base : Nat} {s : Value} {b : List UInt8} (h : CmdOwn w base s b) : CmdN w (fun k => base ≤ k ∧ k < w.heap.size) s b := ⟨Rd.of_own h, NilOk.own h⟩

/-- An item. -/
structure It where
  op : Int
  e : Ent
def ItR (Q : Value → List UInt8 → Prop) (c : List Value) (x : It) : Prop := ∃ s, c = [.int .u64 x.op, .int .u64 x.e.t, .int .u32 x.e.c, .int .u64 x.e.r, s] ∧ Q s x.e.cmd
theorem ItR.one {Q : Value → List UInt8 → Prop} (hQ : ∀ s b, Q s b → s.oneCell' = true) (c : List Value) (e : It) (h : ItR Q c e) : ∀ u ∈ c, u.oneCell' = true := by
  obtain ⟨s, rfl, hq⟩ := h
  intro u hu
  simp at hu
  rcases hu with rfl | rfl | rfl | rfl | rfl
  · rfl
  · rfl
  · rfl
  · rfl
  · exact hQ _ _ hq
/-- Items that read so. -/
def ItsRd (w : World) (S : Nat → Prop) (v : Value) (l : List It) : Prop := (∃ cs, Rd w S 5 v l.length cs ∧ Els (ItR (CmdN w S)) 5 cs l) ∧ NilOk v
theorem ItsRd.keep {w w' : World} {S S' : Nat → Prop} {v : Value} {l : List It} (h : ItsRd w S v l) (hk : ∀ k, k < w.heap.size → S k → w'.heap[k]? = w.heap[k]?) (hs : ∀ k, S k → k < w.heap.size → S' k) : ItsRd w' S' v l := by
  obtain ⟨⟨cs, ho, hE⟩, hn⟩ := h
  exact ⟨⟨cs, Rd.keep ho hk hs (by decide), hE.imp fun c e _ ⟨s, hs', hq⟩ => ⟨s, hs', hq.keep hk hs⟩⟩, hn⟩
theorem ItsRd.below {w w' : World} {S : Nat → Prop} {v : Value} {l : List It} (h : ItsRd w S v l) (hb : Below w.heap.size w w') : ItsRd w' S v l :=
  h.keep (fun k hk _ => hb.block k hk) fun _ hk _ => hk

/-- The items of a log. -/
def its (m : Int) : List Ent → List It
  | [] => []
  | e :: es => ⟨m + 1, e⟩ :: its (m + 1) es
theorem its_len : ∀ (m : Int) (es : List Ent), (its m es).length = es.length
  | _, [] => rfl
  | m, e :: es => by simp [its, its_len (m + 1) es]
theorem its_drop : ∀ (m : Int) (k : Nat) (es : List Ent), (its m es).drop k = its (m + k) (es.drop k)
  | m, 0, es => by simp
  | m, k + 1, [] => by simp [its]
  | m, k + 1, e :: es => by simp only [its, List.drop_succ_cons]; rw [its_drop (m + 1) k es]; congr 1; omega
theorem its_take : ∀ (m : Int) (k : Nat) (es : List Ent), (its m es).take k = its m (es.take k)
  | m, 0, es => by simp [its]
  | m, k + 1, [] => by simp [its]
  | m, k + 1, e :: es => by simp only [its, List.take_succ_cons]; rw [its_take (m + 1) k es]
theorem its_app : ∀ (m : Int) (es : List Ent) (e : Ent), its m (es ++ [e]) = its m es ++ [⟨m + es.length + 1, e⟩]
  | m, [], e => by simp [its]
  | m, x :: es, e => by simp only [its, List.cons_append, its_app (m + 1) es e, List.length_cons]; congr 4; push_cast; omega
theorem its_at : ∀ {m : Int} {es : List Ent} {k : Nat} (h : k < es.length), (its m es)[k]? = some ⟨m + k + 1, es[k]⟩
  | m, e :: es, 0, _ => by simp [its]
  | m, e :: es, k + 1, h => by
    simp only [its, List.getElem?_cons_succ]
    rw [its_at (m := m + 1) (by simpa using h)]
    simp only [List.getElem_cons_succ, Option.some.injEq, It.mk.injEq, and_true]
    push_cast
    omega

/-- The block b is a log of the reference. -/
def RLog (w : World) (S : Nat → Prop) (b : Nat) (m : Int) (es : List Ent) : Prop :=
  ∃ p c, Blk w b 58 #[.int .u64 m, .slice p es.length c] ∧ ItsRd w S (.slice p es.length c) (its m es) ∧ ¬ S b

theorem five_at {cs : List Value} {k : Nat} {a b c d e : Value} (h : (cs.drop k).take 5 = [a, b, c, d, e]) : cs[k]? = some a ∧ cs[k + 1]? = some b ∧ cs[k + 2]? = some c ∧ cs[k + 3]? = some d ∧ cs[k + 4]? = some e := by
  have g : ∀ j, j < 5 → cs[k + j]? = [a, b, c, d, e][j]? := by
    intro j hj
    rw [← h, List.getElem?_take, if_pos hj, List.getElem?_drop]
  exact ⟨g 0 (by omega), g 1 (by omega), g 2 (by omega), g 3 (by omega), g 4 (by omega)⟩
theorem cells5 {w : World} {bk off k : Nat} {cs : List Value} {a b c d e : Value} (hc : ∀ j u, cs[j]? = some u → w.cell? ⟨bk, off + j, none⟩ = some u) (h : (cs.drop (k * 5)).take 5 = [a, b, c, d, e]) :
    w.cell? ⟨bk, off + k * 5, none⟩ = some a ∧ w.cell? ⟨bk, off + k * 5 + 1, none⟩ = some b ∧ w.cell? ⟨bk, off + k * 5 + 2, none⟩ = some c ∧ w.cell? ⟨bk, off + k * 5 + 3, none⟩ = some d ∧ w.cell? ⟨bk, off + k * 5 + 4, none⟩ = some e := by
  obtain ⟨h0, h1, h2, h3, h4⟩ := five_at h
  exact ⟨hc _ _ h0, hc _ _ h1, hc _ _ h2, hc _ _ h3, hc _ _ h4⟩

/-- A log's k-th item. -/
theorem ItsRd.at {w : World} {S : Nat → Prop} {p : Option Addr} {c k : Nat} {m : Int} {es : List Ent} (h : ItsRd w S (.slice p es.length c) (its m es)) (hk : k < es.length) :
    ∃ b off s, p = some ⟨b, off, none⟩ ∧ es.length ≤ c ∧ c ≤ maxLen ∧ S b ∧ CmdN w S s es[k].cmd ∧ w.cell? ⟨b, off + k * 5, none⟩ = some (.int .u64 (m + k + 1)) ∧ w.cell? ⟨b, off + k * 5 + 1, none⟩ = some (.int .u64 es[k].t) ∧
      w.cell? ⟨b, off + k * 5 + 2, none⟩ = some (.int .u32 es[k].c) ∧ w.cell? ⟨b, off + k * 5 + 3, none⟩ = some (.int .u64 es[k].r) ∧ w.cell? ⟨b, off + k * 5 + 4, none⟩ = some s := by
  obtain ⟨⟨cs, hr, hE⟩, -⟩ := h
  rw [its_len] at hr
  obtain ⟨b, off, c', he, h1, h2, hb, hc⟩ := Rd.form hr (by omega)
  injection he with e1 _ e2
  subst e1; subst e2
  obtain ⟨s, hs, hq⟩ := hE.2 k _ (its_at hk)
  exact ⟨b, off, s, rfl, h1, h2, hb, hq, cells5 hc hs⟩

theorem infoI : (Try.prog.info? 77).map (fun i => (i.zero, i.size, i.bytes)) = some (some (.agg #[.int .u64 0, .int .u64 0, .int .u32 0, .int .u64 0, .slice none 0 0]), 5, 56) := by kernel_rfl

set_option maxHeartbeats 800000 in
theorem ref_Own {w : World} {S : Nat → Prop} {s : Value} (e : Ent) (h : CmdN w S s e.cmd) (hb : e.cmd.length ≤ 140737488355328) :
    Calls Try.prog 22 #[entVal e s] w fun x w' => ∃ p c, x = .returned (entVal e (.slice p e.cmd.length c)) ∧ CmdOwn w' w.heap.size (.slice p e.cmd.length c) e.cmd ∧ Below w.heap.size w w' := by
  obtain ⟨hr, hn⟩ := h
  obtain ⟨p, c, rfl⟩ := Rd.slice hr
  have h1 := Rd.alloc (Rd.alloc hr (by decide) (.cells #[.int .u64 e.t, .int .u32 e.c, .int .u64 e.r, .slice p e.cmd.length c] 33)) (by decide) (.cells #[.int .u64 0, .int .u32 0, .int .u64 0, .slice none 0 0] 33)
  have k1 := (Blk.new w 33 #[.int .u64 e.t, .int .u32 e.c, .int .u64 e.r, .slice p e.cmd.length c]).alloc (.cells #[.int .u64 0, .int .u32 0, .int .u64 0, .slice none 0 0] 33)
  have k2 := Blk.new (w.alloc (.cells #[.int .u64 e.t, .int .u32 e.c, .int .u64 e.r, .slice p e.cmd.length c] 33)) 33 #[.int .u64 0, .int .u32 0, .int .u64 0, .slice none 0 0]
  rw [World.size_alloc] at k2
  have hX := ((Below.refl w.heap.size w).alloc (Nat.le_refl _) (.cells #[.int .u64 e.t, .int .u32 e.c, .int .u64 e.r, .slice p e.cmd.length c] 33)).alloc (by simp) (.cells #[.int .u64 0, .int .u32 0, .int .u64 0, .slice none 0 0] 33)
  have hN : ((w.alloc (.cells #[.int .u64 e.t, .int .u32 e.c, .int .u64 e.r, .slice p e.cmd.length c] 33)).alloc (.cells #[.int .u64 0, .int .u32 0, .int .u64 0, .slice none 0 0] 33)).heap.size = w.heap.size + 1 + 1 := by simp
  have H1 := Lib.hid h1
  have Hn := Lib.hid hn
  have K1 := Lib.hid k1
  have K2 := Lib.hid k2
  have HX := Lib.hid hX
  have HN := Lib.hid hN
  clear hr hn h1 k1 k2 hX hN
  unfold entVal
  go_enter Try.func22, Try.ntmps22
  go_wp2_with (at_builtin; go_loud (refine wpList_append_N rfl _ _ 31 rfl (w.heap.size + 2) 5 (.int .u8 0) 1 1 Try.underlying31 infoB rfl (by decide) (.slice none 0 0) 0 [] S rfl (World.ownsRow_nil _ _ _ _) p e.cmd.length c (bcells e.cmd) rfl H1.out (bcells_one _) Hn.out (by unfold maxLen; omega) (by omega) (by rw [HN.out]; omega) ?_))
  intro v' w1 hown hgrow
  obtain ⟨p1, c1, rfl⟩ := own_slice hown
  have hbl := HX.out.grown hgrow (by rw [HN.out]; omega) (by intro k hk; simp [Value.ownBlock] at hk)
  have kk1 := K1.out.grown hgrow (by simp [Value.ownBlock])
  have kk2 := K2.out.grown hgrow (by simp [Value.ownBlock])
  obtain ⟨a0, a1, a2, a3, f0, f1, f2, f3, hz1⟩ := kk1.c4
  obtain ⟨b0, b1, b2, b3, g0, g1, g2, g3, hz2⟩ := kk2.c4
  have Ho := Lib.hid hown
  have Hb := Lib.hid hbl
  have KK1 := Lib.hid kk1
  have KK2 := Lib.hid kk2
  clear hown hbl hgrow kk1 kk2
  go_wp2_with fail
  refine bodyPost_ret (v := entVal e (.slice p1 e.cmd.length c1)) (by simp [results, Try.results22, go_sem, b0, b1, b2, b3, entVal]) rfl ?_
  refine ⟨p1, c1, rfl, ?_, ?_⟩
  · refine own_base (base := w.heap.size + 2) ?_ (by omega)
    have h := Ho.out
    repeat' (first | (with_reducible exact h) | with_reducible refine ownsRow_setCell_below ?_ (by simp) _)
  · refine Below.trans Hb.out ?_
    repeat' (first | (with_reducible exact Below.refl _ _) | with_reducible refine Below.setCell ?_ (by simp) _)

theorem ref_Op {w : World} {S : Nat → Prop} {b : Nat} {m : Int} {es : List Ent} (h : RLog w S b m es) (h2 : es.length ≤ 64) :
    Calls Try.prog 27 #[.pointer (some ⟨b, 0, none⟩)] w fun x w' => x = .returned (.int .u64 (m + es.length)) ∧ Below w.heap.size w w' := by
  obtain ⟨p, c, hB, hI, -⟩ := h
  obtain ⟨a0, a1, f0, f1, hz⟩ := hB.c2
  rcases Nat.eq_zero_or_pos es.length with hl | hl
  · clear hI
    have hl' := Lib.hid hl
    rw [hl] at a1
    clear hB hl
    go_enter Try.func27, Try.ntmps27
    go_wp2_with fail
    go_ret
    exact ⟨by rw [hl'.out]; simp, Below.refl _ _⟩
  · obtain ⟨k, hk⟩ : ∃ k, es.length = k + 1 := ⟨es.length - 1, by omega⟩
    obtain ⟨g, off, s, rfl, hc1, hc2, hg, hq, d0, d1, d2, d3, d4⟩ := hI.at (k := k) (by omega)
    have Hk := Lib.hid hk
    have hk64 : k < 64 := by omega
    rw [hk] at a1 hc1
    clear d1 d2 d3 d4 hB hI hq hk hg
    go_enter Try.func27, Try.ntmps27
    go_wp2_with fail
    go_region
    go_wp2_with fail
    go_ret
    refine ⟨?_, (Below.refl _ _).drew⟩
    rw [Hk.out, show m + ((k + 1 : Nat) : Int) = m + k + 1 from by push_cast; omega]
    rfl

theorem RLog.below {w w' : World} {S : Nat → Prop} {b : Nat} {m : Int} {es : List Ent} (h : RLog w S b m es) (hb : Below w.heap.size w w') : RLog w' S b m es := by
  obtain ⟨p, c, hB, hI, hS⟩ := h
  exact ⟨p, c, hB.below hb, hI.below hb, hS⟩
theorem RLog.ext {w w' : World} {S M : Nat → Prop} {b : Nat} {m : Int} {es : List Ent} (h : RLog w S b m es) (hX : Ext M w w') (hM : ∀ j, S j → j < w.heap.size → ¬ M j) (hb : ¬ M b) : RLog w' S b m es := by
  obtain ⟨p, c, hB, hI, hS⟩ := h
  exact ⟨p, c, hB.ext hX hb, hI.keep (fun k hk hSk => hX.block k hk (hM k hSk hk)) (fun _ hk _ => hk), hS⟩

/-- What 'within' answers. -/
def withinE (m : Int) (n : Nat) (op : Int) : Int := if m + n < op then 6 else if op < m then 32 else 0

theorem ref_within {w : World} {S : Nat → Prop} {b : Nat} {m op : Int} {es : List Ent} (h : RLog w S b m es) (h2 : es.length ≤ 64) :
    Calls Try.prog 42 #[.pointer (some ⟨b, 0, none⟩), .int .u64 op] w fun x w' => x = .returned (.int .i64 (withinE m es.length op)) ∧ Below w.heap.size w w' := by
  have H := Lib.hid h
  clear h
  unfold withinE
  by_cases t1 : m + es.length < op
  · rw [if_pos t1]
    have t1' : decide (m + (es.length : Int) < op) = true := by simp; omega
    clear t1
    go_enter Try.func42, Try.ntmps42
    go_wp2_with fail
    refine (ref_Op H.out h2).mono ?_
    rintro x w1 ⟨rfl, hb⟩
    go_wp2_with fail
    go_ret
    exact ⟨rfl, hb⟩
  · rw [if_neg t1]
    have t1' : decide (m + (es.length : Int) < op) = false := by simp; omega
    clear t1
    have hz : b < w.heap.size := by obtain ⟨p, c, hB, -⟩ := H.out; exact hB.lt
    by_cases t2 : op < m
    · rw [if_pos t2]
      have t2' : decide (op < m) = true := by simp; omega
      clear t2
      go_enter Try.func42, Try.ntmps42
      go_wp2_with fail
      refine (ref_Op H.out h2).mono ?_
      rintro x w1 ⟨rfl, hb⟩
      obtain ⟨p, c, hB, -⟩ := RLog.below H.out hb
      obtain ⟨a0, a1, f0, f1, hz1⟩ := hB.c2
      clear hB
      go_wp2_with fail
      go_ret
      exact ⟨rfl, hb⟩
    · rw [if_neg t2]
      have t2' : decide (op < m) = false := by simp; omega
      clear t2
      go_enter Try.func42, Try.ntmps42
      go_wp2_with fail
      refine (ref_Op H.out h2).mono ?_
      rintro x w1 ⟨rfl, hb⟩
      obtain ⟨p, c, hB, -⟩ := RLog.below H.out hb
      obtain ⟨a0, a1, f0, f1, hz1⟩ := hB.c2
      clear hB
      go_wp2_with fail
      go_ret
      exact ⟨rfl, hb⟩

/-- A block just made, as a slice of one. -/
theorem Rd.made1 (w : World) (t : TypeId) (sz : Nat) (cs : List Value) (h : cs.length = sz) : Rd (w.alloc (.cells cs.toArray t)) (fun k => k = w.heap.size) sz (.slice (some ⟨w.heap.size, 0, none⟩) 1 1) 1 cs := by
  refine ⟨by omega, _, _, rfl, Nat.le_refl _, by unfold maxLen; omega, fun _ => ⟨w.heap.size, 0, rfl, rfl, fun j u hu => ?_⟩⟩
  have := news_of_block (heap_alloc_new w (.cells cs.toArray t)) j u hu
  rw [show (⟨w.heap.size, 0, none⟩ : Addr).add j = ⟨w.heap.size, 0 + j, none⟩ from by unfold Addr.add; split <;> simp_all] at this
  exact this
end Go.Proofs.Ytmoifhoncanjjaa
