/-
  piece.part: the part of pieces ahead of a place, and the one behind it: the contract. Condition: the pieces can be read; their ends are below 2^46. (Printed by wip/gen_part.py.)
-/
import Derived.Test.YtelaiafpfaohfaaPc
import Derived.Test.YtelaiafpfaohfaaOrdB
namespace Go.Proofs.Ytelaiafpfaohfaa
open Go.RowKit
set_option linter.unusedSimpArgs false
set_option linter.unusedVariables false

def partL : List Pc → Nat → List Pc × List Pc
  | [], _ => ([], [])
  | p :: r, pos =>
    if pos < p.len then
      if pos = 0 then ([], p :: r) else ([⟨p.second, p.at_, pos⟩], ⟨p.second, p.at_ + pos, p.len - pos⟩ :: r)
    else (p :: (partL r (pos - p.len)).1, (partL r (pos - p.len)).2)
def PcsOk (ps : List Pc) : Prop := ∀ p ∈ ps, p.at_ + p.len ≤ 70368744177664
def NewOr (S : Nat → Prop) (w : World) : Nat → Prop := fun k => S k ∨ w.heap.size ≤ k
theorem PcsRd.or {w0 w : World} {S : Nat → Prop} {v : Value} {l : List Pc} (h : PcsRd w S v l) : PcsRd w (NewOr S w0) v l := Rd.weak h (fun k hk _ => .inl hk) (by decide)
theorem PcsOwn.or {w0 w : World} {S : Nat → Prop} {base : Nat} {v : Value} {l : List Pc} (h : PcsOwn w base v l) (hb : w0.heap.size ≤ base) : PcsRd w (NewOr S w0) v l := Rd.weak h.rd (fun k hk _ => .inr (Nat.le_trans hb hk.1)) (by decide)
theorem PcsRd.front3 {w : World} {S : Nat → Prop} {p : Option Addr} {c k : Nat} {l : List Pc} (h : PcsRd w S (.slice p l.length c) l) (hk : k ≤ l.length) : PcsRd w S (.slice p k k) (l.take k) := by
  obtain ⟨hl, p', c', he, h1, h2, h3⟩ := h
  injection he with e1 _ e2
  subst e1; subst e2
  have hlk : (l.take k).length = k := by rw [List.length_take]; omega
  unfold PcsRd
  rw [hlk]
  refine ⟨by rw [pcells_len, hlk], _, _, rfl, Nat.le_refl _, by omega, fun hn => ?_⟩
  obtain ⟨b', off, rfl, hb, hc⟩ := h3 (by omega)
  refine ⟨b', off, rfl, hb, fun j u hu => hc j u ?_⟩
  rw [pcells_take, List.getElem?_take] at hu
  split at hu
  · exact hu
  · cases hu
/-- One piece, just laid. -/
theorem one_pc {w : World} (p : Pc) : PcsRd (w.alloc (.cells #[.bool p.second, .int .i64 p.at_, .int .i64 p.len] 58)) (fun _ => True) (.slice (some ⟨w.heap.size, 0, none⟩) 1 1) [p] := by
  refine ⟨rfl, _, _, rfl, Nat.le_refl _, by unfold maxLen; decide, fun _ => ⟨_, 0, rfl, trivial, fun j u hu => ?_⟩⟩
  have hB := Blk.new w 58 #[.bool p.second, .int .i64 p.at_, .int .i64 p.len]
  rw [Nat.zero_add, hB.cell j]
  simpa [pcells, pcell] using hu
theorem one_pc_own {w : World} {base : Nat} (p : Pc) (hb : base ≤ w.heap.size) : PcsOwn (w.alloc (.cells #[.bool p.second, .int .i64 p.at_, .int .i64 p.len] 58)) base (.slice (some ⟨w.heap.size, 0, none⟩) 1 1) [p] :=
  ⟨rfl, .inr ⟨w.heap.size, 1, #[.bool p.second, .int .i64 p.at_, .int .i64 p.len], rfl, hb, heap_alloc_new w _, Nat.le_refl _, by unfold maxLen; decide, rfl, rfl⟩⟩

theorem map_add (b off j : Nat) : (some (⟨b, off, none⟩ : Addr)).map (fun x => x.add j) = some ⟨b, off + j, none⟩ := by
  simp only [Option.map_some]
  unfold Addr.add
  split <;> simp_all

/-- An append inside a region. -/
theorem wp_append_P {w : World} {o : Oper} {a : Act} {K : Act → World → Prop} {Q : Exit → Act → World → Prop} (s x : Operand)
    (ho : o.op = .call { callee := .builtin .append, args := #[s, x], argTypes := #[50, 50] }) (base : Nat) (v : Value) (l r : List Pc) (S : Nat → Prop) (hs : a.eval s = v) (hown : PcsOwn w base v l)
    (p : Option Addr) (c : Nat) (hx : a.eval x = .slice p r.length c) (hr : PcsRd w S (.slice p r.length c) r) (hnil : NilOk (.slice p r.length c)) (hb : (l.length + r.length) * 24 ≤ 140737488355328) (hbase : base ≤ w.heap.size)
    (h : ∀ v' w', PcsOwn w' base v' (l ++ r) → w.grownBy w' v.ownBlock → K (a.put o.dst v') w') : o.wp Try.prog a w K Q := by
  obtain ⟨i0, hi, hz0, hz1, hz2⟩ := info_parts infoP
  cases p with
  | none =>
    have hn : r = [] := by
      rcases Nat.eq_zero_or_pos r.length with h0 | h0
      · exact List.eq_nil_of_length_eq_zero h0
      · obtain ⟨b, off, h', _⟩ := Rd.addr hr h0; cases h'
    subst hn
    obtain rfl : c = 0 := hnil _ _ rfl
    have hrun := run_append_owned_none (P := Try.prog) (w := w) base 50 o.type 58 i0 3 Try.underlying50 hi v l.length (pcells l) hown
    unfold Oper.wp
    simp [execOp, ho, resolve, invoke, builtin, hs, hx, hrun, Result.andThen]
    exact h v w (by simpa using hown) (World.grownBy.refl _ _)
  | some ad =>
    refine wp_append_own w s x 50 ho base 58 i0 (.agg #[.bool false, .int .i64 0, .int .i64 0]) 3 24 Try.underlying50 hi hz0 hz1 hz2 rfl (by decide) v l.length (pcells l) hs hown ad r.length c (pcells r) hx (by rw [pcells_len]) ?_ (pcells_one _) (by unfold maxLen; omega) hb hbase ?_
    · intro j u hu
      have hj : j < r.length * 3 := by have := (List.getElem?_eq_some_iff.1 hu).1; rw [pcells_len] at this; omega
      obtain ⟨b, off, he, _, _, hc⟩ := Rd.addr hr (by omega)
      injection he with he
      subst he
      have := hc j u hu
      rw [show (⟨b, off, none⟩ : Addr).add j = ⟨b, off + j, none⟩ from by unfold Addr.add; split <;> simp_all]
      exact this
    · intro v' w' h1 h2 _
      refine h v' w' ?_ h2
      unfold PcsOwn
      rw [List.length_append, pcells_app]
      exact h1

theorem own_far {w : World} {base sz n g : Nat} {e : TypeId} {v : Value} {cs : List Value} (h : w.ownsRow base e sz v n cs) (hg : g < base) : some g ≠ v.ownBlock := fun he => by
  have := (h.lt g he.symm).1
  omega

/-- What part leaves. -/
def Parted (w : World) (S : Nat → Prop) (r : List Pc × List Pc) (x : Ending) (w' : World) : Prop := ∃ v1 v2, x = .returned (.tuple #[v1, v2]) ∧ PcsRd w' (NewOr S w) v1 r.1 ∧ PcsRd w' (NewOr S w) v2 r.2 ∧ Below w.heap.size w w'

set_option maxHeartbeats 6400000 in
set_option maxRecDepth 100000 in
theorem part_any {w : World} {S : Nat → Prop} {v : Value} {ps : List Pc} {pos : Nat} (h : PcsRd w S v ps) (hok : PcsOk ps) (hn : ps.length ≤ 1000000) (hpos : pos ≤ 70368744177664) :
    Calls Try.prog 36 #[v, .int .i64 pos] w (Parted w S (partL ps pos)) := by
  obtain ⟨p, c, rfl⟩ := Rd.slice h
  have hcb : ps.length ≤ c := by obtain ⟨_, _, _, h, h1, _⟩ := h; injection h with _ _ h; omega
  have hcm : c ≤ maxLen := by obtain ⟨_, _, _, h, _, h1, _⟩ := h; injection h with _ _ h; omega
  unfold maxLen at hcm
  have H := Lib.hid h
  have Hok := Lib.hid hok
  clear h hok
  go_enter Try.func36, Try.ntmps36
  go_wp2_with fail
  go_loopw [1, 11] (fun vp i wr => ∃ (k q : Nat), k ≤ ps.length ∧ q ≤ 70368744177664 ∧ vp = .int .i64 q ∧ i = .int .i64 k ∧ partL ps pos = (ps.take k ++ (partL (ps.drop k) q).1, (partL (ps.drop k) q).2) ∧ Below w.heap.size w wr) (fun _ i _ => ps.length - (intOf i).toNat)
  case atStart => exact ⟨0, pos, Nat.zero_le _, hpos, rfl, rfl, by simp, Below.refl _ _⟩
  case round =>
    obtain ⟨k, q, hk, hq, rfl, rfl, hpl, hb⟩ := hrel
    have HB := Lib.hid hb
    have HP := Lib.hid hpl
    clear hb hpl
    by_cases hlt : k < ps.length
    · have hpk := Hok.out ps[k] (List.getElem_mem hlt)
      obtain ⟨b, off, he, _, _, hcell⟩ := Rd.addr H.out (by omega)
      subst he
      obtain ⟨e0, e1, e2⟩ := pc_at hlt
      have e0 : w.cell? ⟨b, off + k * 3, none⟩ = some (.bool ps[k].second) := hcell _ _ e0
      have e1 : w.cell? ⟨b, off + k * 3 + 1, none⟩ = some (.int .i64 ps[k].at_) := hcell _ _ e1
      have e2 : w.cell? ⟨b, off + k * 3 + 2, none⟩ = some (.int .i64 ps[k].len) := hcell _ _ e2
      have ltb := lt_of_cell e0
      obtain ⟨hc, -⟩ := bcell HB.out
      rw [← hc b _ ltb] at e0 e1 e2
      have hd : ps.drop k = ps[k]'hlt :: ps.drop (k + 1) := List.drop_eq_getElem_cons hlt
      have hts := take_snoc ps k hlt
      have Hd := Lib.hid hd
      have Hts := Lib.hid hts
      have Hlt := Lib.hid hlt
      clear hc hcell hd hts
      generalize hg : ps[k]'hlt = pc at *
      clear hg
      obtain ⟨sec, at_, ln⟩ := pc
      simp only at e0 e1 e2 hpk
      have K7 := Blk.new wr 58 #[.bool sec, .int .i64 at_, .int .i64 ln]
      have hbA := (Below.refl wr.heap.size wr).alloc (Nat.le_refl _) (.cells #[.bool sec, .int .i64 at_, .int .i64 ln] 58)
      have HBA := Lib.hid (HB.out.trans (hbA.mono HB.out.size))
      have HR := Lib.hid (H.out.below HBA.out)
      obtain ⟨m0, m1, m2, g0, g1, g2, hz⟩ := K7.c3
      have hsz := HB.out.size
      by_cases hql : q < ln
      · by_cases hq0 : q = 0
        · subst hq0
          have hres : partL ps pos = (ps.take k, ps.drop k) := by rw [HP.out, Hd.out]; simp [partL, hql]
          rw [hres]
          clear hres HP
          have HF := Lib.hid (HR.out.front3 (Nat.le_of_lt Hlt.out))
          have hcut := HR.out.cut (Nat.le_of_lt Hlt.out)
          have hkc : k ≤ c := by omega
          have hki : (k : Int) ≤ ps.length := by omega
          by_cases hck : c = k
          · exfalso; have := Hlt.out; omega
          rw [if_neg hck] at hcut
          have HC := Lib.hid hcut
          clear hcut
          go_wp2_with fail
          have hS : Hold0 (wr.alloc (.cells #[.bool sec, .int .i64 at_, .int .i64 ln] 58)).drew := trivial
          have hT : Hold0 (wr.alloc (.cells #[.bool sec, .int .i64 at_, .int .i64 ln] 58)).drew := trivial
          refine begin_D [] (by kernel_rfl) hS (fun _ => hT) ?_
          refine take_S (v := ?v0p) 0 rfl (by kernel_rfl) (by kernel_rfl) (by kernel_rfl) (by kernel_rfl) (fun _ _ _ h => h) hS (fun _ => trivial) rfl (fun w' hq => ?h0p) ?_
          case h0p => go_simp; try with_reducible rfl
          try simp only [Act.put, List.setIfInBounds_toArray, List.set_cons_zero, List.set_cons_succ, List.getElem_toArray, List.getElem_cons_succ, List.getElem_cons_zero]
          refine take_S (v := ?v1p) 1 rfl (by kernel_rfl) (by kernel_rfl) (by kernel_rfl) (by kernel_rfl) (fun _ _ _ h => h) hS (fun _ => trivial) rfl (fun w' hq => ?h1p) ?_
          case h1p => go_simp; try with_reducible rfl
          try simp only [Act.put, List.setIfInBounds_toArray, List.set_cons_zero, List.set_cons_succ, List.getElem_toArray, List.getElem_cons_succ, List.getElem_cons_zero]
          refine take_S (v := ?v2p) 2 rfl (by kernel_rfl) (by kernel_rfl) (by kernel_rfl) (by kernel_rfl) (fun _ _ _ h => h) hS (fun _ => trivial) rfl (fun w' hq => ?h2p) ?_
          case h2p => go_simp; try with_reducible rfl
          try simp only [Act.put, List.setIfInBounds_toArray, List.set_cons_zero, List.set_cons_succ, List.getElem_toArray, List.getElem_cons_succ, List.getElem_cons_zero]
          refine take_S (v := ?v3p) 3 rfl (by kernel_rfl) (by kernel_rfl) (by kernel_rfl) (by kernel_rfl) (fun _ _ _ h => h) hS (fun _ => trivial) rfl (fun w' hq => ?h3p) ?_
          case h3p => go_simp; try with_reducible rfl
          try simp only [Act.put, List.setIfInBounds_toArray, List.set_cons_zero, List.set_cons_succ, List.getElem_toArray, List.getElem_cons_succ, List.getElem_cons_zero]
          refine take_S (v := ?v4p) 4 rfl (by kernel_rfl) (by kernel_rfl) (by kernel_rfl) (by kernel_rfl) (fun _ _ _ h => h) hS (fun _ => trivial) rfl (fun w' hq => ?h4p) ?_
          case h4p => go_simp; try with_reducible rfl
          try simp only [Act.put, List.setIfInBounds_toArray, List.set_cons_zero, List.set_cons_succ, List.getElem_toArray, List.getElem_cons_succ, List.getElem_cons_zero]
          refine take_S (v := ?v5p) 5 rfl (by kernel_rfl) (by kernel_rfl) (by kernel_rfl) (by kernel_rfl) (fun _ _ _ h => h) hS (fun _ => trivial) rfl (fun w' hq => ?h5p) ?_
          case h5p => go_simp; try with_reducible rfl
          try simp only [Act.put, List.setIfInBounds_toArray, List.set_cons_zero, List.set_cons_succ, List.getElem_toArray, List.getElem_cons_succ, List.getElem_cons_zero]
          refine take_S (v := ?v6p) 6 rfl (by kernel_rfl) (by kernel_rfl) (by kernel_rfl) (by kernel_rfl) (fun _ _ _ h => h) hS (fun _ => trivial) rfl (fun w' hq => ?h6p) ?_
          case h6p => go_simp; try with_reducible rfl
          try simp only [Act.put, List.setIfInBounds_toArray, List.set_cons_zero, List.set_cons_succ, List.getElem_toArray, List.getElem_cons_succ, List.getElem_cons_zero]
          refine take_S (v := ?v7p) 7 rfl (by kernel_rfl) (by kernel_rfl) (by kernel_rfl) (by kernel_rfl) (fun _ _ _ h => h) hS (fun _ => trivial) rfl (fun w' hq => ?h7p) ?_
          case h7p => go_simp; try with_reducible rfl
          try simp only [Act.put, List.setIfInBounds_toArray, List.set_cons_zero, List.set_cons_succ, List.getElem_toArray, List.getElem_cons_succ, List.getElem_cons_zero]
          refine take_S (v := ?v8p) 8 rfl (by kernel_rfl) (by kernel_rfl) (by kernel_rfl) (by kernel_rfl) (fun _ _ _ h => h) hS (fun _ => trivial) rfl (fun w' hq => ?h8p) ?_
          case h8p => go_simp; try with_reducible rfl
          try simp only [Act.put, List.setIfInBounds_toArray, List.set_cons_zero, List.set_cons_succ, List.getElem_toArray, List.getElem_cons_succ, List.getElem_cons_zero]
          refine done_D (by kernel_rfl) ?_ _
          go_wp2_with fail
          go_ret2
          refine ⟨_, _, rfl, ?_, ?_, HBA.out.drew⟩
          · exact PcsRd.or (Rd.drew HF.out)
          · have h := HC.out
            rw [map_add] at h
            exact PcsRd.or (Rd.drew h)
        · have hres : partL ps pos = (ps.take k ++ [⟨sec, at_, q⟩], ⟨sec, at_ + q, ln - q⟩ :: ps.drop (k + 1)) := by rw [HP.out, Hd.out]; simp [partL, hql, hq0]
          rw [hres]
          clear hres HP
          have HF := Lib.hid (HR.out.front (Nat.le_of_lt Hlt.out))
          have hk1 := Hlt.out
          have hcut := HR.out.cut (k := k + 1) hk1
          have hkc : k ≤ c := by omega
          have hq0' : 0 < q := by omega
          have hq0b : ((q : Int) == 0) = false := by rw [beq_eq_false_iff_ne]; omega
          have hlk : (ps.take k).length = k := by rw [List.length_take]; omega
          have Hcut := Lib.hid hcut
          have Hlk := Lib.hid hlk
          have KK7 := Lib.hid K7
          clear hcut hlk K7 hq0 hk1
          go_wp2_with fail
          generalize hWg : wr.alloc (.cells #[.bool sec, .int .i64 at_, .int .i64 ln] 58) = W at *
          clear hWg
          have hS : Hold3 (wr.heap.size, 0, .bool sec) (wr.heap.size, 1, .int .i64 at_) (wr.heap.size, 2, .int .i64 ln) W.drew := ⟨m0, m1, m2⟩
          have hT : Hold0 W.drew := trivial
          refine begin_D [] (by kernel_rfl) hS (fun _ => hT) ?_
          refine take_S (v := ?v0q) 0 rfl (by kernel_rfl) (by kernel_rfl) (by kernel_rfl) (by kernel_rfl) (fun _ _ _ h => h) hS (fun _ => trivial) rfl (fun w' hq => ?h0q) ?_
          case h0q => obtain ⟨hq0, hq1, hq2⟩ := hq; change _ = some _ at hq0; change _ = some _ at hq1; change _ = some _ at hq2; go_simp; try with_reducible rfl
          try simp only [Act.put, List.setIfInBounds_toArray, List.set_cons_zero, List.set_cons_succ, List.getElem_toArray, List.getElem_cons_succ, List.getElem_cons_zero]
          refine take_S (v := ?v1q) 1 rfl (by kernel_rfl) (by kernel_rfl) (by kernel_rfl) (by kernel_rfl) (fun _ _ _ h => h) hS (fun _ => trivial) rfl (fun w' hq => ?h1q) ?_
          case h1q => obtain ⟨hq0, hq1, hq2⟩ := hq; change _ = some _ at hq0; change _ = some _ at hq1; change _ = some _ at hq2; go_simp; try with_reducible rfl
          try simp only [Act.put, List.setIfInBounds_toArray, List.set_cons_zero, List.set_cons_succ, List.getElem_toArray, List.getElem_cons_succ, List.getElem_cons_zero]
          refine take_S (v := ?v2q) 2 rfl (by kernel_rfl) (by kernel_rfl) (by kernel_rfl) (by kernel_rfl) (fun _ _ _ h => h) hS (fun _ => trivial) rfl (fun w' hq => ?h2q) ?_
          case h2q => obtain ⟨hq0, hq1, hq2⟩ := hq; change _ = some _ at hq0; change _ = some _ at hq1; change _ = some _ at hq2; go_simp; try with_reducible rfl
          try simp only [Act.put, List.setIfInBounds_toArray, List.set_cons_zero, List.set_cons_succ, List.getElem_toArray, List.getElem_cons_succ, List.getElem_cons_zero]
          refine take_S (v := ?v4q) 4 rfl (by kernel_rfl) (by kernel_rfl) (by kernel_rfl) (by kernel_rfl) (fun _ _ _ h => h) hS (fun _ => trivial) rfl (fun w' hq => ?h4q) ?_
          case h4q => obtain ⟨hq0, hq1, hq2⟩ := hq; change _ = some _ at hq0; change _ = some _ at hq1; change _ = some _ at hq2; go_simp; try with_reducible rfl
          try simp only [Act.put, List.setIfInBounds_toArray, List.set_cons_zero, List.set_cons_succ, List.getElem_toArray, List.getElem_cons_succ, List.getElem_cons_zero]
          refine take_S (v := ?v5q) 5 rfl (by kernel_rfl) (by kernel_rfl) (by kernel_rfl) (by kernel_rfl) (fun _ _ _ h => h) hS (fun _ => trivial) rfl (fun w' hq => ?h5q) ?_
          case h5q => obtain ⟨hq0, hq1, hq2⟩ := hq; change _ = some _ at hq0; change _ = some _ at hq1; change _ = some _ at hq2; go_simp; try with_reducible rfl
          try simp only [Act.put, List.setIfInBounds_toArray, List.set_cons_zero, List.set_cons_succ, List.getElem_toArray, List.getElem_cons_succ, List.getElem_cons_zero]
          refine take_S (v := ?v6q) 6 rfl (by kernel_rfl) (by kernel_rfl) (by kernel_rfl) (by kernel_rfl) (fun _ _ _ h => h) hS (fun _ => trivial) rfl (fun w' hq => ?h6q) ?_
          case h6q => obtain ⟨hq0, hq1, hq2⟩ := hq; change _ = some _ at hq0; change _ = some _ at hq1; change _ = some _ at hq2; go_simp; try with_reducible rfl
          try simp only [Act.put, List.setIfInBounds_toArray, List.set_cons_zero, List.set_cons_succ, List.getElem_toArray, List.getElem_cons_succ, List.getElem_cons_zero]
          refine take_S (v := ?v7q) 7 rfl (by kernel_rfl) (by kernel_rfl) (by kernel_rfl) (by kernel_rfl) (fun _ _ _ h => h) hS (fun _ => trivial) rfl (fun w' hq => ?h7q) ?_
          case h7q => obtain ⟨hq0, hq1, hq2⟩ := hq; change _ = some _ at hq0; change _ = some _ at hq1; change _ = some _ at hq2; go_simp; try with_reducible rfl
          try simp only [Act.put, List.setIfInBounds_toArray, List.set_cons_zero, List.set_cons_succ, List.getElem_toArray, List.getElem_cons_succ, List.getElem_cons_zero]
          refine take_S (v := ?v8q) 8 rfl (by kernel_rfl) (by kernel_rfl) (by kernel_rfl) (by kernel_rfl) (fun _ _ _ h => h) hS (fun _ => trivial) rfl (fun w' hq => ?h8q) ?_
          case h8q => obtain ⟨hq0, hq1, hq2⟩ := hq; change _ = some _ at hq0; change _ = some _ at hq1; change _ = some _ at hq2; go_simp; try with_reducible rfl
          try simp only [Act.put, List.setIfInBounds_toArray, List.set_cons_zero, List.set_cons_succ, List.getElem_toArray, List.getElem_cons_succ, List.getElem_cons_zero]
          refine take_S (v := ?v9q) 9 rfl (by kernel_rfl) (by kernel_rfl) (by kernel_rfl) (by kernel_rfl) (fun _ _ _ h => h) hS (fun _ => trivial) rfl (fun w' hq => ?h9q) ?_
          case h9q => obtain ⟨hq0, hq1, hq2⟩ := hq; change _ = some _ at hq0; change _ = some _ at hq1; change _ = some _ at hq2; go_simp; try with_reducible rfl
          try simp only [Act.put, List.setIfInBounds_toArray, List.set_cons_zero, List.set_cons_succ, List.getElem_toArray, List.getElem_cons_succ, List.getElem_cons_zero]
          refine two_D 3 10 rfl rfl (by kernel_rfl) (fun KQ hK => ?_) (fun KQ hK => ?_)
          · skip
            go_simp
            refine (slices_Clone_P (S := S) (n := k) (cs := pcells (ps.take k)) (by have h := Rd.drew HF.out; rw [Hlk.out] at h; exact h) (pcells_one _) (by omega)).mono ?_
            rintro x w1 ⟨p1, c1, rfl, ho, hX⟩
            have hS1 : Hold3 (wr.heap.size, 0, .bool sec) (wr.heap.size, 1, .int .i64 at_) (wr.heap.size, 2, .int .i64 ln) w1 := ⟨(hX.cell (p := ⟨wr.heap.size, 0, none⟩) hz).trans m0, (hX.cell (p := ⟨wr.heap.size, 1, none⟩) hz).trans m1, (hX.cell (p := ⟨wr.heap.size, 2, none⟩) hz).trans m2⟩
            have HO := Lib.hid (show PcsOwn w1 W.heap.size (.slice p1 k c1) (ps.take k) from by unfold PcsOwn; rw [Hlk.out]; exact ho)
            have HX := Lib.hid ((Below.refl W.heap.size W).drew.trans hX)
            refine hK.out _ _ hS1 (fun _ => trivial) ?_
            clear hK ho hX
            refine one_D 10 rfl (by kernel_rfl) (fun KQ hK => ?_)
            go_simp
            have hS2 : Hold3 (wr.heap.size, 0, .bool sec) (wr.heap.size, 1, .int .i64 at_) (wr.heap.size, 2, .int .i64 ln) (w1.alloc (.cells #[.bool sec, .int .i64 at_, .int .i64 q] 58)) := by
              have g : ∀ i v, w1.cell? ⟨wr.heap.size, i, none⟩ = some v → (w1.alloc (.cells #[.bool sec, .int .i64 at_, .int .i64 q] 58)).cell? ⟨wr.heap.size, i, none⟩ = some v := fun i v h => by rw [World.cell?_alloc_lt _ _ _ (lt_of_cell h)]; exact h
              exact ⟨g _ _ hS1.1, g _ _ hS1.2.1, g _ _ hS1.2.2⟩
            refine hK.out _ _ hS2 (fun _ => trivial) ?_
            clear hK
            have hbN := (Below.refl w1.heap.size w1).alloc (Nat.le_refl _) (.cells #[.bool sec, .int .i64 at_, .int .i64 q] 58)
            have HO1 := Lib.hid (show PcsOwn (w1.alloc (.cells #[.bool sec, .int .i64 at_, .int .i64 q] 58)) W.heap.size (.slice p1 k c1) (ps.take k) from own_below HO.out hbN)
            have HN1 := Lib.hid (one_pc (w := w1) ⟨sec, at_, q⟩)
            have hWz := HX.out.size
            refine one_D 11 rfl (by kernel_rfl) (fun KQ hK => ?_)
            refine Eq.mpr (if_pos (by rfl)) ?_
            refine wp_append_P _ _ rfl W.heap.size (.slice p1 k c1) (ps.take k) [⟨sec, at_, q⟩] (fun _ => True) rfl HO1.out (some ⟨w1.heap.size, 0, none⟩) 1 rfl HN1.out NilOk.some (by rw [Hlk.out]; simp; omega) (by first | exact HX.out.size | (rw [World.size_alloc]; omega)) ?_
            intro v' w3 ho3 hg3
            have hfar := own_far HO1.out hz
            have hS3 : Hold3 (wr.heap.size, 0, .bool sec) (wr.heap.size, 1, .int .i64 at_) (wr.heap.size, 2, .int .i64 ln) w3 := ⟨hg3.cell hS2.1 hfar, hg3.cell hS2.2.1 hfar, hg3.cell hS2.2.2 hfar⟩
            have HB3 := Lib.hid (show Below W.heap.size W w3 from (HX.out.trans (hbN.mono HX.out.size)).grown hg3 (Nat.le_trans HX.out.size (by simp)) (fun j hj => (HO1.out.lt j hj).1))
            have HO3 := Lib.hid ho3
            refine hK.out _ _ hS3 (fun _ => trivial) ?_
            clear hK hg3 ho3 hfar
            refine take_S (v := ?v12qq0) 12 rfl (by kernel_rfl) (by kernel_rfl) (by kernel_rfl) (by kernel_rfl) (fun _ _ _ h => h) hS3 (fun _ => trivial) rfl (fun w' hq => ?h12qq0) ?_
            case h12qq0 => obtain ⟨hq0, hq1, hq2⟩ := hq; change _ = some _ at hq0; change _ = some _ at hq1; change _ = some _ at hq2; go_simp; try with_reducible rfl
            try simp only [Act.put, List.setIfInBounds_toArray, List.set_cons_zero, List.set_cons_succ, List.getElem_toArray, List.getElem_cons_succ, List.getElem_cons_zero]
            refine done_D (by kernel_rfl) ?_ _
            go_wp2_with fail
            clear hS1 hS2
            obtain ⟨k1, hk1⟩ : ∃ n, n = k + 1 := ⟨_, rfl⟩
            obtain ⟨at1, hat1⟩ : ∃ n, n = at_ + q := ⟨_, rfl⟩
            obtain ⟨ln1, hln1⟩ : ∃ n, n = ln - q := ⟨_, rfl⟩
            have hw1 : IntKind.i64.wrap ((k : Int) + 1) = (k1 : Int) := by rw [IntKind.wrap_i64]; omega
            have hw2 : IntKind.i64.wrap ((at_ : Int) + (q : Int)) = (at1 : Int) := by rw [IntKind.wrap_i64]; omega
            have hw3 : IntKind.i64.wrap ((ln : Int) - (q : Int)) = (ln1 : Int) := by rw [IntKind.wrap_i64]; omega
            have hk1i : (k1 : Int) ≤ ps.length := by omega
            have hk1c : k1 ≤ ps.length := by omega
            have hcut1 := Hcut.out
            rw [map_add, ← hk1] at hcut1
            obtain ⟨off1, hoff⟩ : ∃ off1, (if c = k1 then (some ⟨b, off, none⟩ : Option Addr) else some ⟨b, off + k1 * 3, none⟩) = some ⟨b, off1, none⟩ := by by_cases h : c = k1 <;> simp [h]
            rw [hoff] at hcut1
            have Hcut1 := Lib.hid hcut1
            have Hk1 := Lib.hid hk1
            have Hat1 := Lib.hid hat1
            have Hln1 := Lib.hid hln1
            clear hcut1 hk1 hat1 hln1
            have hS : Hold3 (wr.heap.size, 0, .bool sec) (wr.heap.size, 1, .int .i64 at_) (wr.heap.size, 2, .int .i64 ln) w3.drew := hS3
            have hT : Hold0 w3.drew := trivial
            refine begin_D [] (by kernel_rfl) hS (fun _ => hT) ?_
            refine take_S (v := ?v0r) 0 rfl (by kernel_rfl) (by kernel_rfl) (by kernel_rfl) (by kernel_rfl) (fun _ _ _ h => h) hS (fun _ => trivial) rfl (fun w' hq => ?h0r) ?_
            case h0r => obtain ⟨hq0, hq1, hq2⟩ := hq; change _ = some _ at hq0; change _ = some _ at hq1; change _ = some _ at hq2; go_simp; try with_reducible rfl
            try simp only [Act.put, List.setIfInBounds_toArray, List.set_cons_zero, List.set_cons_succ, List.getElem_toArray, List.getElem_cons_succ, List.getElem_cons_zero]
            refine take_S (v := ?v1r) 1 rfl (by kernel_rfl) (by kernel_rfl) (by kernel_rfl) (by kernel_rfl) (fun _ _ _ h => h) hS (fun _ => trivial) rfl (fun w' hq => ?h1r) ?_
            case h1r => obtain ⟨hq0, hq1, hq2⟩ := hq; change _ = some _ at hq0; change _ = some _ at hq1; change _ = some _ at hq2; go_simp; try with_reducible rfl
            try simp only [Act.put, List.setIfInBounds_toArray, List.set_cons_zero, List.set_cons_succ, List.getElem_toArray, List.getElem_cons_succ, List.getElem_cons_zero]
            refine take_S (v := ?v2r) 2 rfl (by kernel_rfl) (by kernel_rfl) (by kernel_rfl) (by kernel_rfl) (fun _ _ _ h => h) hS (fun _ => trivial) rfl (fun w' hq => ?h2r) ?_
            case h2r => obtain ⟨hq0, hq1, hq2⟩ := hq; change _ = some _ at hq0; change _ = some _ at hq1; change _ = some _ at hq2; go_simp; try with_reducible rfl
            try simp only [Act.put, List.setIfInBounds_toArray, List.set_cons_zero, List.set_cons_succ, List.getElem_toArray, List.getElem_cons_succ, List.getElem_cons_zero]
            refine take_S (v := ?v3r) 3 rfl (by kernel_rfl) (by kernel_rfl) (by kernel_rfl) (by kernel_rfl) (fun _ _ _ h => h) hS (fun _ => trivial) rfl (fun w' hq => ?h3r) ?_
            case h3r => obtain ⟨hq0, hq1, hq2⟩ := hq; change _ = some _ at hq0; change _ = some _ at hq1; change _ = some _ at hq2; go_simp; try with_reducible rfl
            try simp only [Act.put, List.setIfInBounds_toArray, List.set_cons_zero, List.set_cons_succ, List.getElem_toArray, List.getElem_cons_succ, List.getElem_cons_zero]
            refine take_S (v := ?v4r) 4 rfl (by kernel_rfl) (by kernel_rfl) (by kernel_rfl) (by kernel_rfl) (fun _ _ _ h => h) hS (fun _ => trivial) rfl (fun w' hq => ?h4r) ?_
            case h4r => obtain ⟨hq0, hq1, hq2⟩ := hq; change _ = some _ at hq0; change _ = some _ at hq1; change _ = some _ at hq2; go_simp; try with_reducible rfl
            try simp only [Act.put, List.setIfInBounds_toArray, List.set_cons_zero, List.set_cons_succ, List.getElem_toArray, List.getElem_cons_succ, List.getElem_cons_zero]
            refine take_S (v := ?v5r) 5 rfl (by kernel_rfl) (by kernel_rfl) (by kernel_rfl) (by kernel_rfl) (fun _ _ _ h => h) hS (fun _ => trivial) rfl (fun w' hq => ?h5r) ?_
            case h5r => obtain ⟨hq0, hq1, hq2⟩ := hq; change _ = some _ at hq0; change _ = some _ at hq1; change _ = some _ at hq2; go_simp; try with_reducible rfl
            try simp only [Act.put, List.setIfInBounds_toArray, List.set_cons_zero, List.set_cons_succ, List.getElem_toArray, List.getElem_cons_succ, List.getElem_cons_zero]
            refine take_S (v := .int .i64 (at1 : Int)) 6 rfl (by kernel_rfl) (by kernel_rfl) (by kernel_rfl) (by kernel_rfl) (fun _ _ _ h => h) hS (fun _ => trivial) rfl (fun w' hq => ?h6r) ?_
            case h6r => obtain ⟨hq0, hq1, hq2⟩ := hq; change _ = some _ at hq0; change _ = some _ at hq1; change _ = some _ at hq2; go_simp; first | rw [hw2] | skip
            try simp only [Act.put, List.setIfInBounds_toArray, List.set_cons_zero, List.set_cons_succ, List.getElem_toArray, List.getElem_cons_succ, List.getElem_cons_zero]
            refine take_S (v := ?v7r) 7 rfl (by kernel_rfl) (by kernel_rfl) (by kernel_rfl) (by kernel_rfl) (fun _ _ _ h => h) hS (fun _ => trivial) rfl (fun w' hq => ?h7r) ?_
            case h7r => obtain ⟨hq0, hq1, hq2⟩ := hq; change _ = some _ at hq0; change _ = some _ at hq1; change _ = some _ at hq2; go_simp; try with_reducible rfl
            try simp only [Act.put, List.setIfInBounds_toArray, List.set_cons_zero, List.set_cons_succ, List.getElem_toArray, List.getElem_cons_succ, List.getElem_cons_zero]
            refine take_S (v := ?v8r) 8 rfl (by kernel_rfl) (by kernel_rfl) (by kernel_rfl) (by kernel_rfl) (fun _ _ _ h => h) hS (fun _ => trivial) rfl (fun w' hq => ?h8r) ?_
            case h8r => obtain ⟨hq0, hq1, hq2⟩ := hq; change _ = some _ at hq0; change _ = some _ at hq1; change _ = some _ at hq2; go_simp; try with_reducible rfl
            try simp only [Act.put, List.setIfInBounds_toArray, List.set_cons_zero, List.set_cons_succ, List.getElem_toArray, List.getElem_cons_succ, List.getElem_cons_zero]
            refine take_S (v := ?v9r) 9 rfl (by kernel_rfl) (by kernel_rfl) (by kernel_rfl) (by kernel_rfl) (fun _ _ _ h => h) hS (fun _ => trivial) rfl (fun w' hq => ?h9r) ?_
            case h9r => obtain ⟨hq0, hq1, hq2⟩ := hq; change _ = some _ at hq0; change _ = some _ at hq1; change _ = some _ at hq2; go_simp; try with_reducible rfl
            try simp only [Act.put, List.setIfInBounds_toArray, List.set_cons_zero, List.set_cons_succ, List.getElem_toArray, List.getElem_cons_succ, List.getElem_cons_zero]
            refine take_S (v := .int .i64 (ln1 : Int)) 10 rfl (by kernel_rfl) (by kernel_rfl) (by kernel_rfl) (by kernel_rfl) (fun _ _ _ h => h) hS (fun _ => trivial) rfl (fun w' hq => ?h10r) ?_
            case h10r => obtain ⟨hq0, hq1, hq2⟩ := hq; change _ = some _ at hq0; change _ = some _ at hq1; change _ = some _ at hq2; go_simp; first | rw [hw3] | skip
            try simp only [Act.put, List.setIfInBounds_toArray, List.set_cons_zero, List.set_cons_succ, List.getElem_toArray, List.getElem_cons_succ, List.getElem_cons_zero]
            refine take_S (v := ?v11r) 11 rfl (by kernel_rfl) (by kernel_rfl) (by kernel_rfl) (by kernel_rfl) (fun _ _ _ h => h) hS (fun _ => trivial) rfl (fun w' hq => ?h11r) ?_
            case h11r => obtain ⟨hq0, hq1, hq2⟩ := hq; change _ = some _ at hq0; change _ = some _ at hq1; change _ = some _ at hq2; go_simp; try with_reducible rfl
            try simp only [Act.put, List.setIfInBounds_toArray, List.set_cons_zero, List.set_cons_succ, List.getElem_toArray, List.getElem_cons_succ, List.getElem_cons_zero]
            refine take_S (v := ?v13r) 13 rfl (by kernel_rfl) (by kernel_rfl) (by kernel_rfl) (by kernel_rfl) (fun _ _ _ h => h) hS (fun _ => trivial) rfl (fun w' hq => ?h13r) ?_
            case h13r => obtain ⟨hq0, hq1, hq2⟩ := hq; change _ = some _ at hq0; change _ = some _ at hq1; change _ = some _ at hq2; go_simp; try with_reducible rfl
            try simp only [Act.put, List.setIfInBounds_toArray, List.set_cons_zero, List.set_cons_succ, List.getElem_toArray, List.getElem_cons_succ, List.getElem_cons_zero]
            refine take_S (v := ?v14r) 14 rfl (by kernel_rfl) (by kernel_rfl) (by kernel_rfl) (by kernel_rfl) (fun _ _ _ h => h) hS (fun _ => trivial) rfl (fun w' hq => ?h14r) ?_
            case h14r => obtain ⟨hq0, hq1, hq2⟩ := hq; change _ = some _ at hq0; change _ = some _ at hq1; change _ = some _ at hq2; go_simp; try with_reducible rfl
            try simp only [Act.put, List.setIfInBounds_toArray, List.set_cons_zero, List.set_cons_succ, List.getElem_toArray, List.getElem_cons_succ, List.getElem_cons_zero]
            refine take_S (v := .int .i64 (k1 : Int)) 15 rfl (by kernel_rfl) (by kernel_rfl) (by kernel_rfl) (by kernel_rfl) (fun _ _ _ h => h) hS (fun _ => trivial) rfl (fun w' hq => ?h15r) ?_
            case h15r => obtain ⟨hq0, hq1, hq2⟩ := hq; change _ = some _ at hq0; change _ = some _ at hq1; change _ = some _ at hq2; go_simp; first | rw [hw1] | skip
            try simp only [Act.put, List.setIfInBounds_toArray, List.set_cons_zero, List.set_cons_succ, List.getElem_toArray, List.getElem_cons_succ, List.getElem_cons_zero]
            refine take_S (v := .slice (some ⟨b, off1, none⟩) (ps.length - k1) (c - k1)) 16 rfl (by kernel_rfl) (by kernel_rfl) (by kernel_rfl) (by kernel_rfl) (fun _ _ _ h => h) hS (fun _ => trivial) rfl (fun w' hq => ?h16r) ?_
            case h16r => obtain ⟨hq0, hq1, hq2⟩ := hq; change _ = some _ at hq0; change _ = some _ at hq1; change _ = some _ at hq2; go_simp; first | rw [hoff] | skip
            try simp only [Act.put, List.setIfInBounds_toArray, List.set_cons_zero, List.set_cons_succ, List.getElem_toArray, List.getElem_cons_succ, List.getElem_cons_zero]
            refine one_D 12 rfl (by kernel_rfl) (fun KQ hK => ?_)
            go_simp
            have hbM := (Below.refl w3.heap.size w3).drew.alloc (Nat.le_refl _) (.cells #[.bool sec, .int .i64 (at1 : Int), .int .i64 (ln1 : Int)] 58)
            have hzz : wr.heap.size < w3.heap.size := Nat.lt_of_lt_of_le hz HB3.out.size
            have hS4 : Hold3 (wr.heap.size, 0, .bool sec) (wr.heap.size, 1, .int .i64 at_) (wr.heap.size, 2, .int .i64 ln) (w3.drew.alloc (.cells #[.bool sec, .int .i64 (at1 : Int), .int .i64 (ln1 : Int)] 58)) := ⟨(hbM.cell (p := ⟨wr.heap.size, 0, none⟩) hzz).trans hS.1, (hbM.cell (p := ⟨wr.heap.size, 1, none⟩) hzz).trans hS.2.1, (hbM.cell (p := ⟨wr.heap.size, 2, none⟩) hzz).trans hS.2.2⟩
            refine hK.out _ _ hS4 (fun _ => trivial) ?_
            clear hK
            have hr1 : (ps.drop k1).length = ps.length - k1 := List.length_drop
            have hQ1 := PcsRd.below (PcsRd.below Hcut1.out HB3.out) hbM
            rw [← hr1] at hQ1
            have HQ1 := Lib.hid hQ1
            have HN4 := Lib.hid (one_pc_own (w := w3.drew) (base := w3.heap.size) ⟨sec, at1, ln1⟩ (Nat.le_refl _))
            have HBM := Lib.hid hbM
            clear hQ1 hbM
            refine one_D 17 rfl (by kernel_rfl) (fun KQ hK => ?_)
            refine Eq.mpr (if_pos (by rfl)) ?_
            refine wp_append_P _ _ rfl w3.heap.size (.slice (some ⟨w3.heap.size, 0, none⟩) 1 1) [⟨sec, at1, ln1⟩] (ps.drop k1) S rfl HN4.out (some ⟨b, off1, none⟩) (c - k1) (congrArg (fun n => Value.slice (some ⟨b, off1, none⟩) n (c - k1)) hr1.symm) HQ1.out NilOk.some (by rw [hr1]; simp; omega) HBM.out.size ?_
            intro v5 w5 ho5 hg5
            have hB5 : Below w3.heap.size w3 w5 := HBM.out.grown hg5 HBM.out.size (fun j hj => by simp [Value.ownBlock] at hj; omega)
            have hS5 : Hold3 (wr.heap.size, 0, .bool sec) (wr.heap.size, 1, .int .i64 at_) (wr.heap.size, 2, .int .i64 ln) w5 := ⟨(hB5.cell (p := ⟨wr.heap.size, 0, none⟩) hzz).trans hS.1, (hB5.cell (p := ⟨wr.heap.size, 1, none⟩) hzz).trans hS.2.1, (hB5.cell (p := ⟨wr.heap.size, 2, none⟩) hzz).trans hS.2.2⟩
            have HO5 := Lib.hid (PcsOwn.or (w0 := w) (S := S) (own_below HO3.out hB5) (Nat.le_trans HB.out.size (Nat.le_of_lt hz)))
            have HO6 := Lib.hid (PcsOwn.or (w0 := w) (S := S) ho5 (Nat.le_trans HBA.out.size HB3.out.size))
            have HB5 := Lib.hid (HBA.out.trans ((HB3.out.trans (hB5.mono HB3.out.size)).mono HBA.out.size))
            refine hK.out _ _ hS5 (fun _ => trivial) ?_
            clear hK hg5 ho5 hB5
            refine take_S (v := ?v18r) 18 rfl (by kernel_rfl) (by kernel_rfl) (by kernel_rfl) (by kernel_rfl) (fun _ _ _ h => h) hS5 (fun _ => trivial) rfl (fun w' hq => ?h18r) ?_
            case h18r => obtain ⟨hq0, hq1, hq2⟩ := hq; change _ = some _ at hq0; change _ = some _ at hq1; change _ = some _ at hq2; go_simp; try with_reducible rfl
            try simp only [Act.put, List.setIfInBounds_toArray, List.set_cons_zero, List.set_cons_succ, List.getElem_toArray, List.getElem_cons_succ, List.getElem_cons_zero]
            refine take_S (v := ?v19r) 19 rfl (by kernel_rfl) (by kernel_rfl) (by kernel_rfl) (by kernel_rfl) (fun _ _ _ h => h) hS5 (fun _ => trivial) rfl (fun w' hq => ?h19r) ?_
            case h19r => obtain ⟨hq0, hq1, hq2⟩ := hq; change _ = some _ at hq0; change _ = some _ at hq1; change _ = some _ at hq2; go_simp; try with_reducible rfl
            try simp only [Act.put, List.setIfInBounds_toArray, List.set_cons_zero, List.set_cons_succ, List.getElem_toArray, List.getElem_cons_succ, List.getElem_cons_zero]
            refine done_D (by kernel_rfl) ?_ _
            go_wp2_with fail
            go_ret2
            refine ⟨_, _, rfl, ?_, ?_, HB5.out⟩
            · exact HO5.out
            · have h := HO6.out
              rw [Hat1.out, Hln1.out, Hk1.out] at h
              exact h
          · skip
            go_simp
            have hS1 : Hold3 (wr.heap.size, 0, .bool sec) (wr.heap.size, 1, .int .i64 at_) (wr.heap.size, 2, .int .i64 ln) (W.drew.alloc (.cells #[.bool sec, .int .i64 at_, .int .i64 q] 58)) := by
              have g : ∀ i v, W.drew.cell? ⟨wr.heap.size, i, none⟩ = some v → (W.drew.alloc (.cells #[.bool sec, .int .i64 at_, .int .i64 q] 58)).cell? ⟨wr.heap.size, i, none⟩ = some v := fun i v h => by rw [World.cell?_alloc_lt _ _ _ (lt_of_cell h)]; exact h
              exact ⟨g _ _ m0, g _ _ m1, g _ _ m2⟩
            refine hK.out _ _ hS1 (fun _ => trivial) ?_
            clear hK
            have hbN := (Below.refl W.drew.heap.size W.drew).alloc (Nat.le_refl _) (.cells #[.bool sec, .int .i64 at_, .int .i64 q] 58)
            have HN0 := Lib.hid (one_pc (w := W.drew) ⟨sec, at_, q⟩)
            have HF1 := Lib.hid (PcsRd.below (Rd.drew HF.out) hbN)
            have HA1 := Lib.hid hS1
            refine one_D 3 rfl (by kernel_rfl) (fun KQ hK => ?_)
            go_simp
            refine (slices_Clone_P (S := S) (n := k) (cs := pcells (ps.take k)) (by have h := HF1.out; unfold PcsRd at h; rw [Hlk.out] at h; exact h) (pcells_one _) (by omega)).mono ?_
            rintro x w1 ⟨p1, c1, rfl, ho, hX⟩
            have hS2 : Hold3 (wr.heap.size, 0, .bool sec) (wr.heap.size, 1, .int .i64 at_) (wr.heap.size, 2, .int .i64 ln) w1 := by
              have g : ∀ i v, (W.drew.alloc (.cells #[.bool sec, .int .i64 at_, .int .i64 q] 58)).cell? ⟨wr.heap.size, i, none⟩ = some v → w1.cell? ⟨wr.heap.size, i, none⟩ = some v := fun i v h => (hX.cell (p := ⟨wr.heap.size, i, none⟩) (lt_of_cell h)).trans h
              exact ⟨g _ _ HA1.out.1, g _ _ HA1.out.2.1, g _ _ HA1.out.2.2⟩
            refine hK.out _ _ hS2 (fun _ => trivial) ?_
            clear hK
            have hX1 := hbN.trans (hX.mono hbN.size)
            have HX := Lib.hid ((Below.refl W.heap.size W).drew.trans hX1)
            have HO1 := Lib.hid (show PcsOwn w1 W.heap.size (.slice p1 k c1) (ps.take k) from by unfold PcsOwn; rw [Hlk.out]; exact own_base ho hbN.size)
            have HN1 := Lib.hid (PcsRd.below HN0.out hX)
            have hWz := HX.out.size
            clear ho hX hX1
            refine one_D 11 rfl (by kernel_rfl) (fun KQ hK => ?_)
            refine Eq.mpr (if_pos (by rfl)) ?_
            refine wp_append_P _ _ rfl W.heap.size (.slice p1 k c1) (ps.take k) [⟨sec, at_, q⟩] (fun _ => True) rfl HO1.out (some ⟨W.heap.size, 0, none⟩) 1 rfl HN1.out NilOk.some (by rw [Hlk.out]; simp; omega) (by first | exact HX.out.size | (rw [World.size_alloc]; omega)) ?_
            intro v' w3 ho3 hg3
            have hfar := own_far HO1.out hz
            have hS3 : Hold3 (wr.heap.size, 0, .bool sec) (wr.heap.size, 1, .int .i64 at_) (wr.heap.size, 2, .int .i64 ln) w3 := ⟨hg3.cell hS2.1 hfar, hg3.cell hS2.2.1 hfar, hg3.cell hS2.2.2 hfar⟩
            have HB3 := Lib.hid (show Below W.heap.size W w3 from (HX.out).grown hg3 (HX.out.size) (fun j hj => (HO1.out.lt j hj).1))
            have HO3 := Lib.hid ho3
            refine hK.out _ _ hS3 (fun _ => trivial) ?_
            clear hK hg3 ho3 hfar
            refine take_S (v := ?v12qq1) 12 rfl (by kernel_rfl) (by kernel_rfl) (by kernel_rfl) (by kernel_rfl) (fun _ _ _ h => h) hS3 (fun _ => trivial) rfl (fun w' hq => ?h12qq1) ?_
            case h12qq1 => obtain ⟨hq0, hq1, hq2⟩ := hq; change _ = some _ at hq0; change _ = some _ at hq1; change _ = some _ at hq2; go_simp; try with_reducible rfl
            try simp only [Act.put, List.setIfInBounds_toArray, List.set_cons_zero, List.set_cons_succ, List.getElem_toArray, List.getElem_cons_succ, List.getElem_cons_zero]
            refine done_D (by kernel_rfl) ?_ _
            go_wp2_with fail
            clear hS1 hS2
            obtain ⟨k1, hk1⟩ : ∃ n, n = k + 1 := ⟨_, rfl⟩
            obtain ⟨at1, hat1⟩ : ∃ n, n = at_ + q := ⟨_, rfl⟩
            obtain ⟨ln1, hln1⟩ : ∃ n, n = ln - q := ⟨_, rfl⟩
            have hw1 : IntKind.i64.wrap ((k : Int) + 1) = (k1 : Int) := by rw [IntKind.wrap_i64]; omega
            have hw2 : IntKind.i64.wrap ((at_ : Int) + (q : Int)) = (at1 : Int) := by rw [IntKind.wrap_i64]; omega
            have hw3 : IntKind.i64.wrap ((ln : Int) - (q : Int)) = (ln1 : Int) := by rw [IntKind.wrap_i64]; omega
            have hk1i : (k1 : Int) ≤ ps.length := by omega
            have hk1c : k1 ≤ ps.length := by omega
            have hcut1 := Hcut.out
            rw [map_add, ← hk1] at hcut1
            obtain ⟨off1, hoff⟩ : ∃ off1, (if c = k1 then (some ⟨b, off, none⟩ : Option Addr) else some ⟨b, off + k1 * 3, none⟩) = some ⟨b, off1, none⟩ := by by_cases h : c = k1 <;> simp [h]
            rw [hoff] at hcut1
            have Hcut1 := Lib.hid hcut1
            have Hk1 := Lib.hid hk1
            have Hat1 := Lib.hid hat1
            have Hln1 := Lib.hid hln1
            clear hcut1 hk1 hat1 hln1
            have hS : Hold3 (wr.heap.size, 0, .bool sec) (wr.heap.size, 1, .int .i64 at_) (wr.heap.size, 2, .int .i64 ln) w3.drew := hS3
            have hT : Hold0 w3.drew := trivial
            refine begin_D [] (by kernel_rfl) hS (fun _ => hT) ?_
            refine take_S (v := ?v0s) 0 rfl (by kernel_rfl) (by kernel_rfl) (by kernel_rfl) (by kernel_rfl) (fun _ _ _ h => h) hS (fun _ => trivial) rfl (fun w' hq => ?h0s) ?_
            case h0s => obtain ⟨hq0, hq1, hq2⟩ := hq; change _ = some _ at hq0; change _ = some _ at hq1; change _ = some _ at hq2; go_simp; try with_reducible rfl
            try simp only [Act.put, List.setIfInBounds_toArray, List.set_cons_zero, List.set_cons_succ, List.getElem_toArray, List.getElem_cons_succ, List.getElem_cons_zero]
            refine take_S (v := ?v1s) 1 rfl (by kernel_rfl) (by kernel_rfl) (by kernel_rfl) (by kernel_rfl) (fun _ _ _ h => h) hS (fun _ => trivial) rfl (fun w' hq => ?h1s) ?_
            case h1s => obtain ⟨hq0, hq1, hq2⟩ := hq; change _ = some _ at hq0; change _ = some _ at hq1; change _ = some _ at hq2; go_simp; try with_reducible rfl
            try simp only [Act.put, List.setIfInBounds_toArray, List.set_cons_zero, List.set_cons_succ, List.getElem_toArray, List.getElem_cons_succ, List.getElem_cons_zero]
            refine take_S (v := ?v2s) 2 rfl (by kernel_rfl) (by kernel_rfl) (by kernel_rfl) (by kernel_rfl) (fun _ _ _ h => h) hS (fun _ => trivial) rfl (fun w' hq => ?h2s) ?_
            case h2s => obtain ⟨hq0, hq1, hq2⟩ := hq; change _ = some _ at hq0; change _ = some _ at hq1; change _ = some _ at hq2; go_simp; try with_reducible rfl
            try simp only [Act.put, List.setIfInBounds_toArray, List.set_cons_zero, List.set_cons_succ, List.getElem_toArray, List.getElem_cons_succ, List.getElem_cons_zero]
            refine take_S (v := ?v3s) 3 rfl (by kernel_rfl) (by kernel_rfl) (by kernel_rfl) (by kernel_rfl) (fun _ _ _ h => h) hS (fun _ => trivial) rfl (fun w' hq => ?h3s) ?_
            case h3s => obtain ⟨hq0, hq1, hq2⟩ := hq; change _ = some _ at hq0; change _ = some _ at hq1; change _ = some _ at hq2; go_simp; try with_reducible rfl
            try simp only [Act.put, List.setIfInBounds_toArray, List.set_cons_zero, List.set_cons_succ, List.getElem_toArray, List.getElem_cons_succ, List.getElem_cons_zero]
            refine take_S (v := ?v4s) 4 rfl (by kernel_rfl) (by kernel_rfl) (by kernel_rfl) (by kernel_rfl) (fun _ _ _ h => h) hS (fun _ => trivial) rfl (fun w' hq => ?h4s) ?_
            case h4s => obtain ⟨hq0, hq1, hq2⟩ := hq; change _ = some _ at hq0; change _ = some _ at hq1; change _ = some _ at hq2; go_simp; try with_reducible rfl
            try simp only [Act.put, List.setIfInBounds_toArray, List.set_cons_zero, List.set_cons_succ, List.getElem_toArray, List.getElem_cons_succ, List.getElem_cons_zero]
            refine take_S (v := ?v5s) 5 rfl (by kernel_rfl) (by kernel_rfl) (by kernel_rfl) (by kernel_rfl) (fun _ _ _ h => h) hS (fun _ => trivial) rfl (fun w' hq => ?h5s) ?_
            case h5s => obtain ⟨hq0, hq1, hq2⟩ := hq; change _ = some _ at hq0; change _ = some _ at hq1; change _ = some _ at hq2; go_simp; try with_reducible rfl
            try simp only [Act.put, List.setIfInBounds_toArray, List.set_cons_zero, List.set_cons_succ, List.getElem_toArray, List.getElem_cons_succ, List.getElem_cons_zero]
            refine take_S (v := .int .i64 (at1 : Int)) 6 rfl (by kernel_rfl) (by kernel_rfl) (by kernel_rfl) (by kernel_rfl) (fun _ _ _ h => h) hS (fun _ => trivial) rfl (fun w' hq => ?h6s) ?_
            case h6s => obtain ⟨hq0, hq1, hq2⟩ := hq; change _ = some _ at hq0; change _ = some _ at hq1; change _ = some _ at hq2; go_simp; first | rw [hw2] | skip
            try simp only [Act.put, List.setIfInBounds_toArray, List.set_cons_zero, List.set_cons_succ, List.getElem_toArray, List.getElem_cons_succ, List.getElem_cons_zero]
            refine take_S (v := ?v7s) 7 rfl (by kernel_rfl) (by kernel_rfl) (by kernel_rfl) (by kernel_rfl) (fun _ _ _ h => h) hS (fun _ => trivial) rfl (fun w' hq => ?h7s) ?_
            case h7s => obtain ⟨hq0, hq1, hq2⟩ := hq; change _ = some _ at hq0; change _ = some _ at hq1; change _ = some _ at hq2; go_simp; try with_reducible rfl
            try simp only [Act.put, List.setIfInBounds_toArray, List.set_cons_zero, List.set_cons_succ, List.getElem_toArray, List.getElem_cons_succ, List.getElem_cons_zero]
            refine take_S (v := ?v8s) 8 rfl (by kernel_rfl) (by kernel_rfl) (by kernel_rfl) (by kernel_rfl) (fun _ _ _ h => h) hS (fun _ => trivial) rfl (fun w' hq => ?h8s) ?_
            case h8s => obtain ⟨hq0, hq1, hq2⟩ := hq; change _ = some _ at hq0; change _ = some _ at hq1; change _ = some _ at hq2; go_simp; try with_reducible rfl
            try simp only [Act.put, List.setIfInBounds_toArray, List.set_cons_zero, List.set_cons_succ, List.getElem_toArray, List.getElem_cons_succ, List.getElem_cons_zero]
            refine take_S (v := ?v9s) 9 rfl (by kernel_rfl) (by kernel_rfl) (by kernel_rfl) (by kernel_rfl) (fun _ _ _ h => h) hS (fun _ => trivial) rfl (fun w' hq => ?h9s) ?_
            case h9s => obtain ⟨hq0, hq1, hq2⟩ := hq; change _ = some _ at hq0; change _ = some _ at hq1; change _ = some _ at hq2; go_simp; try with_reducible rfl
            try simp only [Act.put, List.setIfInBounds_toArray, List.set_cons_zero, List.set_cons_succ, List.getElem_toArray, List.getElem_cons_succ, List.getElem_cons_zero]
            refine take_S (v := .int .i64 (ln1 : Int)) 10 rfl (by kernel_rfl) (by kernel_rfl) (by kernel_rfl) (by kernel_rfl) (fun _ _ _ h => h) hS (fun _ => trivial) rfl (fun w' hq => ?h10s) ?_
            case h10s => obtain ⟨hq0, hq1, hq2⟩ := hq; change _ = some _ at hq0; change _ = some _ at hq1; change _ = some _ at hq2; go_simp; first | rw [hw3] | skip
            try simp only [Act.put, List.setIfInBounds_toArray, List.set_cons_zero, List.set_cons_succ, List.getElem_toArray, List.getElem_cons_succ, List.getElem_cons_zero]
            refine take_S (v := ?v11s) 11 rfl (by kernel_rfl) (by kernel_rfl) (by kernel_rfl) (by kernel_rfl) (fun _ _ _ h => h) hS (fun _ => trivial) rfl (fun w' hq => ?h11s) ?_
            case h11s => obtain ⟨hq0, hq1, hq2⟩ := hq; change _ = some _ at hq0; change _ = some _ at hq1; change _ = some _ at hq2; go_simp; try with_reducible rfl
            try simp only [Act.put, List.setIfInBounds_toArray, List.set_cons_zero, List.set_cons_succ, List.getElem_toArray, List.getElem_cons_succ, List.getElem_cons_zero]
            refine take_S (v := ?v13s) 13 rfl (by kernel_rfl) (by kernel_rfl) (by kernel_rfl) (by kernel_rfl) (fun _ _ _ h => h) hS (fun _ => trivial) rfl (fun w' hq => ?h13s) ?_
            case h13s => obtain ⟨hq0, hq1, hq2⟩ := hq; change _ = some _ at hq0; change _ = some _ at hq1; change _ = some _ at hq2; go_simp; try with_reducible rfl
            try simp only [Act.put, List.setIfInBounds_toArray, List.set_cons_zero, List.set_cons_succ, List.getElem_toArray, List.getElem_cons_succ, List.getElem_cons_zero]
            refine take_S (v := ?v14s) 14 rfl (by kernel_rfl) (by kernel_rfl) (by kernel_rfl) (by kernel_rfl) (fun _ _ _ h => h) hS (fun _ => trivial) rfl (fun w' hq => ?h14s) ?_
            case h14s => obtain ⟨hq0, hq1, hq2⟩ := hq; change _ = some _ at hq0; change _ = some _ at hq1; change _ = some _ at hq2; go_simp; try with_reducible rfl
            try simp only [Act.put, List.setIfInBounds_toArray, List.set_cons_zero, List.set_cons_succ, List.getElem_toArray, List.getElem_cons_succ, List.getElem_cons_zero]
            refine take_S (v := .int .i64 (k1 : Int)) 15 rfl (by kernel_rfl) (by kernel_rfl) (by kernel_rfl) (by kernel_rfl) (fun _ _ _ h => h) hS (fun _ => trivial) rfl (fun w' hq => ?h15s) ?_
            case h15s => obtain ⟨hq0, hq1, hq2⟩ := hq; change _ = some _ at hq0; change _ = some _ at hq1; change _ = some _ at hq2; go_simp; first | rw [hw1] | skip
            try simp only [Act.put, List.setIfInBounds_toArray, List.set_cons_zero, List.set_cons_succ, List.getElem_toArray, List.getElem_cons_succ, List.getElem_cons_zero]
            refine take_S (v := .slice (some ⟨b, off1, none⟩) (ps.length - k1) (c - k1)) 16 rfl (by kernel_rfl) (by kernel_rfl) (by kernel_rfl) (by kernel_rfl) (fun _ _ _ h => h) hS (fun _ => trivial) rfl (fun w' hq => ?h16s) ?_
            case h16s => obtain ⟨hq0, hq1, hq2⟩ := hq; change _ = some _ at hq0; change _ = some _ at hq1; change _ = some _ at hq2; go_simp; first | rw [hoff] | skip
            try simp only [Act.put, List.setIfInBounds_toArray, List.set_cons_zero, List.set_cons_succ, List.getElem_toArray, List.getElem_cons_succ, List.getElem_cons_zero]
            refine one_D 12 rfl (by kernel_rfl) (fun KQ hK => ?_)
            go_simp
            have hbM := (Below.refl w3.heap.size w3).drew.alloc (Nat.le_refl _) (.cells #[.bool sec, .int .i64 (at1 : Int), .int .i64 (ln1 : Int)] 58)
            have hzz : wr.heap.size < w3.heap.size := Nat.lt_of_lt_of_le hz HB3.out.size
            have hS4 : Hold3 (wr.heap.size, 0, .bool sec) (wr.heap.size, 1, .int .i64 at_) (wr.heap.size, 2, .int .i64 ln) (w3.drew.alloc (.cells #[.bool sec, .int .i64 (at1 : Int), .int .i64 (ln1 : Int)] 58)) := ⟨(hbM.cell (p := ⟨wr.heap.size, 0, none⟩) hzz).trans hS.1, (hbM.cell (p := ⟨wr.heap.size, 1, none⟩) hzz).trans hS.2.1, (hbM.cell (p := ⟨wr.heap.size, 2, none⟩) hzz).trans hS.2.2⟩
            refine hK.out _ _ hS4 (fun _ => trivial) ?_
            clear hK
            have hr1 : (ps.drop k1).length = ps.length - k1 := List.length_drop
            have hQ1 := PcsRd.below (PcsRd.below Hcut1.out HB3.out) hbM
            rw [← hr1] at hQ1
            have HQ1 := Lib.hid hQ1
            have HN4 := Lib.hid (one_pc_own (w := w3.drew) (base := w3.heap.size) ⟨sec, at1, ln1⟩ (Nat.le_refl _))
            have HBM := Lib.hid hbM
            clear hQ1 hbM
            refine one_D 17 rfl (by kernel_rfl) (fun KQ hK => ?_)
            refine Eq.mpr (if_pos (by rfl)) ?_
            refine wp_append_P _ _ rfl w3.heap.size (.slice (some ⟨w3.heap.size, 0, none⟩) 1 1) [⟨sec, at1, ln1⟩] (ps.drop k1) S rfl HN4.out (some ⟨b, off1, none⟩) (c - k1) (congrArg (fun n => Value.slice (some ⟨b, off1, none⟩) n (c - k1)) hr1.symm) HQ1.out NilOk.some (by rw [hr1]; simp; omega) HBM.out.size ?_
            intro v5 w5 ho5 hg5
            have hB5 : Below w3.heap.size w3 w5 := HBM.out.grown hg5 HBM.out.size (fun j hj => by simp [Value.ownBlock] at hj; omega)
            have hS5 : Hold3 (wr.heap.size, 0, .bool sec) (wr.heap.size, 1, .int .i64 at_) (wr.heap.size, 2, .int .i64 ln) w5 := ⟨(hB5.cell (p := ⟨wr.heap.size, 0, none⟩) hzz).trans hS.1, (hB5.cell (p := ⟨wr.heap.size, 1, none⟩) hzz).trans hS.2.1, (hB5.cell (p := ⟨wr.heap.size, 2, none⟩) hzz).trans hS.2.2⟩
            have HO5 := Lib.hid (PcsOwn.or (w0 := w) (S := S) (own_below HO3.out hB5) (Nat.le_trans HB.out.size (Nat.le_of_lt hz)))
            have HO6 := Lib.hid (PcsOwn.or (w0 := w) (S := S) ho5 (Nat.le_trans HBA.out.size HB3.out.size))
            have HB5 := Lib.hid (HBA.out.trans ((HB3.out.trans (hB5.mono HB3.out.size)).mono HBA.out.size))
            refine hK.out _ _ hS5 (fun _ => trivial) ?_
            clear hK hg5 ho5 hB5
            refine take_S (v := ?v18s) 18 rfl (by kernel_rfl) (by kernel_rfl) (by kernel_rfl) (by kernel_rfl) (fun _ _ _ h => h) hS5 (fun _ => trivial) rfl (fun w' hq => ?h18s) ?_
            case h18s => obtain ⟨hq0, hq1, hq2⟩ := hq; change _ = some _ at hq0; change _ = some _ at hq1; change _ = some _ at hq2; go_simp; try with_reducible rfl
            try simp only [Act.put, List.setIfInBounds_toArray, List.set_cons_zero, List.set_cons_succ, List.getElem_toArray, List.getElem_cons_succ, List.getElem_cons_zero]
            refine take_S (v := ?v19s) 19 rfl (by kernel_rfl) (by kernel_rfl) (by kernel_rfl) (by kernel_rfl) (fun _ _ _ h => h) hS5 (fun _ => trivial) rfl (fun w' hq => ?h19s) ?_
            case h19s => obtain ⟨hq0, hq1, hq2⟩ := hq; change _ = some _ at hq0; change _ = some _ at hq1; change _ = some _ at hq2; go_simp; try with_reducible rfl
            try simp only [Act.put, List.setIfInBounds_toArray, List.set_cons_zero, List.set_cons_succ, List.getElem_toArray, List.getElem_cons_succ, List.getElem_cons_zero]
            refine done_D (by kernel_rfl) ?_ _
            go_wp2_with fail
            go_ret2
            refine ⟨_, _, rfl, ?_, ?_, HB5.out⟩
            · exact HO5.out
            · have h := HO6.out
              rw [Hat1.out, Hln1.out, Hk1.out] at h
              exact h
      · have hln : ln ≤ q := by omega
        have hrel : partL ps pos = (ps.take (k + 1) ++ (partL (ps.drop (k + 1)) (q - ln)).1, (partL (ps.drop (k + 1)) (q - ln)).2) := by
          rw [HP.out, Hd.out, Hts.out]
          simp only [partL, if_neg hql, List.append_assoc, List.cons_append, List.nil_append]
        have HP1 := Lib.hid hrel
        clear hrel HP
        go_wp2_with fail
        go_roundw
        case rel => exact ⟨k + 1, q - ln, by omega, by omega, by go_num, by go_num, HP1.out, HBA.out⟩
        case measure => simp [intOf] <;> omega
    · obtain rfl : k = ps.length := by omega
      have hres : partL ps pos = (ps, []) := by rw [HP.out, List.drop_length, List.take_length]; simp [partL]
      have Hres := Lib.hid hres
      clear hres HP hlt hk
      go_wp2_with fail
      go_ret2
      refine ⟨_, _, rfl, ?_, ?_, HB.out⟩
      · rw [Hres.out]
        exact PcsRd.or (H.out.below HB.out)
      · rw [Hres.out]
        exact Rd.nil _ _ _
end Go.Proofs.Ytelaiafpfaohfaa
