/-
  PieceReads' walk: it returns true. (Printed by wip/gen_reads5.py.)
-/
import Derived.Test.YtelaiafpfaohfaaTyped
namespace Go.Proofs.Ytelaiafpfaohfaa
open Go.RowKit
set_option linter.unusedSimpArgs false
set_option linter.unusedVariables false

theorem wp_append_C {w : World} {o : Oper} {a : Act} {K : Act → World → Prop} {Q : Exit → Act → World → Prop} (s x : Operand)
    (ho : o.op = .call { callee := .builtin .append, args := #[s, x], argTypes := #[22, 22] }) (base : Nat) (v : Value) (l r : List Int) (S : Nat → Prop) (hs : a.eval s = v) (hown : CharOwn w base v l)
    (p : Option Addr) (c : Nat) (hx : a.eval x = .slice p r.length c) (hr : CharRd w S (.slice p r.length c) r) (hnil : NilOk (.slice p r.length c)) (hb : (l.length + r.length) * 4 ≤ 140737488355328) (hbase : base ≤ w.heap.size)
    (h : ∀ v' w', CharOwn w' base v' (l ++ r) → w.grownBy w' v.ownBlock → K (a.put o.dst v') w') : o.wp Try.prog a w K Q := by
  obtain ⟨i0, hi, hz0, hz1, hz2⟩ := info_parts infoC
  cases p with
  | none =>
    have hn : r = [] := by
      rcases Nat.eq_zero_or_pos r.length with h0 | h0
      · exact List.eq_nil_of_length_eq_zero h0
      · obtain ⟨b, off, h', _⟩ := Rd.addr hr h0; cases h'
    subst hn
    obtain rfl : c = 0 := hnil _ _ rfl
    have hrun := run_append_owned_none (P := Try.prog) (w := w) base 22 o.type 29 i0 1 Try.underlying22 hi v l.length (ccells l) hown
    unfold Oper.wp
    simp [execOp, ho, resolve, invoke, builtin, hs, hx, hrun, Result.andThen]
    exact h v w (by simpa using hown) (World.grownBy.refl _ _)
  | some ad =>
    refine wp_append_own w s x 22 ho base 29 i0 (.int .i32 0) 1 4 Try.underlying22 hi hz0 hz1 hz2 rfl (by decide) v l.length (ccells l) hs hown ad r.length c (ccells r) hx (by rw [ccells_len, Nat.mul_one]) ?_ (ccells_one _) (by unfold maxLen; omega) hb hbase ?_
    · intro j u hu
      have hj : j < r.length * 1 := by have := (List.getElem?_eq_some_iff.1 hu).1; rw [ccells_len] at this; omega
      obtain ⟨b, off, he, _, _, hc⟩ := Rd.addr hr (by omega)
      injection he with he
      subst he
      have := hc j u hu
      rw [show (⟨b, off, none⟩ : Addr).add j = ⟨b, off + j, none⟩ from by unfold Addr.add; split <;> simp_all]
      exact this
    · intro v' w' h1 h2 _
      refine h v' w' ?_ h2
      unfold CharOwn
      rw [List.length_append, ccells_app]
      exact h1


/-- .. behind a guard that is met. -/
theorem wpList_append_Cg {w : World} {ops : Array Oper} {rest : List Oper} {o : Oper} {a : Act} {Q : Exit → Act → World → Prop} (hw : Region.wanted o (yielded ops a.tmps) = true) (s x : Operand)
    (ho : o.op = .call { callee := .builtin .append, args := #[s, x], argTypes := #[22, 22] }) (base : Nat) (v : Value) (l r : List Int) (S : Nat → Prop) (hs : a.eval s = v) (hown : CharOwn w base v l)
    (p : Option Addr) (c : Nat) (hx : a.eval x = .slice p r.length c) (hr : CharRd w S (.slice p r.length c) r) (hnil : NilOk (.slice p r.length c)) (hb : (l.length + r.length) * 4 ≤ 140737488355328) (hbase : base ≤ w.heap.size)
    (h : ∀ v' w', CharOwn w' base v' (l ++ r) → w.grownBy w' v.ownBlock → wpList Try.prog ops Q rest (a.put o.dst v') w') : wpList Try.prog ops Q (o :: rest) a w :=
  wpList_step fun K hK => by
    rw [if_pos hw]
    exact wp_append_C s x ho base v l r S hs hown p c hx hr hnil hb hbase fun v' w' h1 h2 => hK _ _ (h v' w' h1 h2)

theorem u64_nn (n : Int) : 0 ≤ IntKind.u64.wrap n := by simp [IntKind.wrap, IntKind.bits, IntKind.signed]; omega
theorem u64_id (n : Nat) (h : n ≤ 100000) : IntKind.u64.wrap (n : Int) = (n : Int) := by simp [IntKind.wrap, IntKind.bits, IntKind.signed]; omega
theorem tmod_nat {x : Int} (hx : 0 ≤ x) {n : Nat} (hn : 0 < n) : ∃ r : Nat, x.tmod (n : Int) = (r : Int) ∧ r < n := by
  have h1 := Int.tmod_nonneg (n : Int) hx
  have h2 := Int.tmod_lt_of_pos x (b := (n : Int)) (by omega)
  exact ⟨(x.tmod n).toNat, by omega, by omega⟩
section
variable {w : World} {S : Nat → Prop} {b N kk d : Nat} {t : Tb}
theorem reads_a (h : TbAt w S b t) (hok : t.Ok N) (hN : N ≤ 100000) (hk : kk ≤ t.long) : Calls Try.prog 16 #[.pointer (some ⟨b, 0, none⟩), .int .i64 0, .int .i64 kk] w (TbRead w (t.text.take kk, 0)) := by
  have h1 := read_all (pos := ((0 : Nat) : Int)) (n := (kk : Int)) h hok hN (by omega) (by have := hok.n; omega)
  rw [Tb.read_text hok (by omega), List.drop_zero] at h1
  exact h1
theorem reads_b (h : TbAt w S b t) (hok : t.Ok N) (hN : N ≤ 100000) (hk : kk ≤ t.long) (hd : d = t.long - kk) : Calls Try.prog 16 #[.pointer (some ⟨b, 0, none⟩), .int .i64 kk, .int .i64 d] w (TbRead w (t.text.drop kk, 0)) := by
  have hn := hok.n
  have h1 := read_all (pos := (kk : Int)) (n := (d : Int)) h hok hN (by omega) (by omega)
  rw [Tb.read_text hok (by omega), List.take_of_length_le (by rw [List.length_drop, hok.text_len]; omega)] at h1
  exact h1
theorem reads_c (h : TbAt w S b t) (hok : t.Ok N) (hN : N ≤ 100000) (hk : kk ≤ t.long) : Calls Try.prog 16 #[.pointer (some ⟨b, 0, none⟩), .int .i64 kk, .int .i64 0] w (TbRead w ([], 0)) := by
  have hn := hok.n
  have h1 := read_all (pos := (kk : Int)) (n := ((0 : Nat) : Int)) h hok hN (by omega) (by omega)
  rw [Tb.read_text hok (by omega), List.take_zero] at h1
  exact h1
theorem reads_h (h : TbAt w S b t) (hok : t.Ok N) (hN : N ≤ 100000) (hk : kk ≤ t.long) (hd : d = t.long - kk + 1) : Calls Try.prog 16 #[.pointer (some ⟨b, 0, none⟩), .int .i64 kk, .int .i64 d] w (TbRead w ([], 30)) := by
  have hn := hok.n
  have h1 := read_all (pos := (kk : Int)) (n := (d : Int)) h hok hN (by omega) (by omega)
  rw [Tb.read_no (by unfold inText; exact decide_eq_false (fun h => by omega))] at h1
  exact h1
end
set_option maxHeartbeats 12800000 in
set_option maxRecDepth 100000 in
theorem reads5_walk {w : World} {v v2 : Value} {at_ : Int} {text : List Int} {acts : List Actn} (ht : CharRd w (fun j => j < w.heap.size) v text) (htn : NilOk v) (hac : ActsRd w (fun j => j < w.heap.size) v2 acts) (hok : ActsOk acts) (ha0 : 0 ≤ at_) (ha : at_ ≤ 65535) :
    Calls Try.prog 5 #[v, v2, .int .u16 at_] w fun e w' => e = .returned (.bool true) ∧ Below w.heap.size w w' := by
  obtain ⟨p, c, rfl⟩ := Rd.slice ht
  obtain ⟨p2, c2, rfl⟩ : ∃ p c, v2 = .slice p acts.length c := by obtain ⟨_, hr, _⟩ := hac; exact Rd.slice hr
  have hlc : text.length ≤ c ∧ c ≤ maxLen := by obtain ⟨_, _, _, h, h1, h2, _⟩ := ht; injection h with _ _ h; subst h; exact ⟨h1, h2⟩
  have hla : acts.length ≤ maxLen := by obtain ⟨_, hr, _⟩ := hac; exact Rd.le hr
  unfold maxLen at hlc hla
  obtain ⟨tx, htx⟩ : ∃ x, text.take 300 = x := ⟨_, rfl⟩
  obtain ⟨hr0, hx300, hxl⟩ := take_own ht htx
  have hm : (if (300 : Int) < (text.length : Int) then (300 : Int) else (text.length : Int)) = (tx.length : Int) := by rw [← htx, List.length_take]; split <;> omega
  have hxc : (tx.length : Int) ≤ (c : Int) := by omega
  have H := Lib.hid hr0
  have Ha := Lib.hid hac
  have Hok := Lib.hid hok
  clear htx hr0 ht htn hac hok
  go_enter Try.func5, Try.ntmps5
  go_wp2_with fail
  refine (new_all H.out (by omega)).mono ?_
  rintro e w1 ⟨b, rfl, hb, htb, hX1⟩
  have HX1 := Lib.hid hX1
  have HT := Lib.hid (show TbAt w1 (OwnS w.heap.size b) b (Tb.new tx) ∧ w.heap.size ≤ b from ⟨htb, hb⟩)
  have HTok := Lib.hid (show (Tb.new tx).Ok 300 from (Tb.new_ok tx).mono hx300)
  clear hb htb hX1 hm
  go_wp2_with fail
  go_loopw [30] (fun i wr => ∃ (k : Nat) (t : Tb), k ≤ acts.length ∧ k ≤ 20 ∧ i = .int .i64 k ∧ Hid (TbAt wr (OwnS w.heap.size b) b t ∧ t.Ok (300 + 100 * k) ∧ Below w.heap.size w wr)) (fun i _ => acts.length - (intOf i).toNat)
  case atStart => exact ⟨0, _, Nat.zero_le _, Nat.zero_le _, rfl, Lib.hid ⟨HT.out.1, HTok.out, HX1.out⟩⟩
  case round =>
    obtain ⟨k, t, hk, hk20, rfl, hR⟩ := hrel
    by_cases hlt : k < acts.length ∧ ¬ k = 20
    · obtain ⟨hlt, hk20'⟩ := hlt
      obtain ⟨bk, off, qa, da, he, e0, e1, e2, e3, hq, hnil, hbd, hbd2, hacl⟩ := ActsRd.at_ (Ha.out.below hR.out.2.2) hlt
      subst he
      unfold maxLen at hbd2
      have hint := Hok.out acts[k] (List.getElem_mem hlt)
      generalize acts[k]'hlt = ac at *
      obtain ⟨what, pos, n, l⟩ := ac
      simp only at e0 e1 e2 e3 hq hnil hbd hint
      obtain ⟨x, hx⟩ : ∃ x, l.take 100 = x := ⟨_, rfl⟩
      obtain ⟨hrx, hx100, hxl⟩ := take_own hq hx
      have hm : (if (100 : Int) < (l.length : Int) then (100 : Int) else (l.length : Int)) = (x.length : Int) := by rw [← hx, List.length_take]; split <;> omega
      have hxd : (x.length : Int) ≤ (da : Int) := by omega
      have HNx := Lib.hid (NilOk.front_ (k := x.length) hnil)
      have hbA := (Below.refl wr.heap.size wr).alloc (Nat.le_refl _) (.cells #[.int .i64 what, .int .i64 pos, .int .i64 n, .slice qa l.length da] 31)
      have HTB := Lib.hid (hR.out.1.below hbA)
      have Hok2 := Lib.hid hR.out.2.1
      have HXB := Lib.hid (hR.out.2.2.trans (hbA.mono hR.out.2.2.size))
      have HXq := Lib.hid (hrx.below hbA)
      have HAB := Lib.hid (Blk.new wr 31 #[.int .i64 what, .int .i64 pos, .int .i64 n, .slice qa l.length da])
      obtain ⟨c0, c1, c2', c3, -⟩ := HAB.out.c4
      have HAne := Lib.hid (show wr.heap.size ≠ b from fun e => by have := hR.out.1.lt; omega)
      have Hint := Lib.hid hint
      have hlong := hR.out.2.1.n
      clear hR hq hnil hrx hbA hint hx
      generalize hlg : t.long = long at *
      have Hlg := Lib.hid hlg
      clear hlg
      go_wp2_with fail
      refine (len_all HTB.out).mono ?_
      rintro e w' ⟨rfl, rfl⟩
      rw [Hlg.out]
      obtain ⟨n1, hn1⟩ : ∃ n, n = long + 1 := ⟨_, rfl⟩
      have hw0 : IntKind.i64.wrap ((long : Int) + 1) = (n1 : Int) := by rw [IntKind.wrap_i64]; omega
      by_cases hw : what = 0
      · subst hw
        obtain ⟨r1, hr1, hr1l⟩ := tmod_nat (u64_nn pos) (n := n1) (by omega)
        have hr1i : (r1 : Int) < (n1 : Int) := by omega
        have hn10 : ¬ ((n1 : Int) = 0) := by omega
        have hn1l : n1 ≤ 100000 := by omega
        have hu1 := u64_id n1 hn1l
        have hwr1 : IntKind.i64.wrap (r1 : Int) = (r1 : Int) := by rw [IntKind.wrap_i64]; omega
        clear hn1
        go_wp2_with fail
        have hS : Hold2 (wr.heap.size, 1, .int .i64 pos) (wr.heap.size, 3, .slice qa l.length da) (wr.alloc (.cells #[.int .i64 0, .int .i64 pos, .int .i64 n, .slice qa l.length da] 31)).drew := ⟨c1, c3⟩
        refine begin_D (T := Hold0) [] (by kernel_rfl) hS (fun _ => trivial) ?_
        refine take_S (v := ?v0a) 0 rfl (by kernel_rfl) (by kernel_rfl) (by kernel_rfl) (by kernel_rfl) (fun _ _ _ h => h) hS (fun _ => trivial) rfl (fun w' hq => ?h0a) ?_
        case h0a => obtain ⟨hq0, hq1⟩ := hq; change _ = some _ at hq0; change _ = some _ at hq1; go_simp; try with_reducible rfl
        try simp only [Act.put, List.setIfInBounds_toArray, List.set_cons_zero, List.set_cons_succ, List.getElem_toArray, List.getElem_cons_succ, List.getElem_cons_zero]
        refine take_S (v := ?v1a) 1 rfl (by kernel_rfl) (by kernel_rfl) (by kernel_rfl) (by kernel_rfl) (fun _ _ _ h => h) hS (fun _ => trivial) rfl (fun w' hq => ?h1a) ?_
        case h1a => obtain ⟨hq0, hq1⟩ := hq; change _ = some _ at hq0; change _ = some _ at hq1; go_simp; try with_reducible rfl
        try simp only [Act.put, List.setIfInBounds_toArray, List.set_cons_zero, List.set_cons_succ, List.getElem_toArray, List.getElem_cons_succ, List.getElem_cons_zero]
        refine take_S (v := ?v2a) 2 rfl (by kernel_rfl) (by kernel_rfl) (by kernel_rfl) (by kernel_rfl) (fun _ _ _ h => h) hS (fun _ => trivial) rfl (fun w' hq => ?h2a) ?_
        case h2a => obtain ⟨hq0, hq1⟩ := hq; change _ = some _ at hq0; change _ = some _ at hq1; go_simp; try with_reducible rfl
        try simp only [Act.put, List.setIfInBounds_toArray, List.set_cons_zero, List.set_cons_succ, List.getElem_toArray, List.getElem_cons_succ, List.getElem_cons_zero]
        refine take_S (v := ?v3a) 3 rfl (by kernel_rfl) (by kernel_rfl) (by kernel_rfl) (by kernel_rfl) (fun _ _ _ h => h) hS (fun _ => trivial) rfl (fun w' hq => ?h3a) ?_
        case h3a => obtain ⟨hq0, hq1⟩ := hq; change _ = some _ at hq0; change _ = some _ at hq1; go_simp; try with_reducible rfl
        try simp only [Act.put, List.setIfInBounds_toArray, List.set_cons_zero, List.set_cons_succ, List.getElem_toArray, List.getElem_cons_succ, List.getElem_cons_zero]
        refine take_S (v := ?v4a) 4 rfl (by kernel_rfl) (by kernel_rfl) (by kernel_rfl) (by kernel_rfl) (fun _ _ _ h => h) hS (fun _ => trivial) rfl (fun w' hq => ?h4a) ?_
        case h4a => obtain ⟨hq0, hq1⟩ := hq; change _ = some _ at hq0; change _ = some _ at hq1; go_simp; try with_reducible rfl
        try simp only [Act.put, List.setIfInBounds_toArray, List.set_cons_zero, List.set_cons_succ, List.getElem_toArray, List.getElem_cons_succ, List.getElem_cons_zero]
        refine take_S (v := (.int .i64 (n1 : Int))) 5 rfl (by kernel_rfl) (by kernel_rfl) (by kernel_rfl) (by kernel_rfl) (fun _ _ _ h => h) hS (fun _ => trivial) rfl (fun w' hq => ?h5a) ?_
        case h5a => obtain ⟨hq0, hq1⟩ := hq; change _ = some _ at hq0; change _ = some _ at hq1; go_simp; first | rw [hw0] | skip
        try simp only [Act.put, List.setIfInBounds_toArray, List.set_cons_zero, List.set_cons_succ, List.getElem_toArray, List.getElem_cons_succ, List.getElem_cons_zero]
        refine take_S (v := (.int .u64 (n1 : Int))) 6 rfl (by kernel_rfl) (by kernel_rfl) (by kernel_rfl) (by kernel_rfl) (fun _ _ _ h => h) hS (fun _ => trivial) rfl (fun w' hq => ?h6a) ?_
        case h6a => obtain ⟨hq0, hq1⟩ := hq; change _ = some _ at hq0; change _ = some _ at hq1; go_simp; first | rw [hu1] | skip
        try simp only [Act.put, List.setIfInBounds_toArray, List.set_cons_zero, List.set_cons_succ, List.getElem_toArray, List.getElem_cons_succ, List.getElem_cons_zero]
        refine take_S (v := (.int .u64 (r1 : Int))) 7 rfl (by kernel_rfl) (by kernel_rfl) (by kernel_rfl) (by kernel_rfl) (fun _ _ _ h => h) hS (fun _ => trivial) rfl (fun w' hq => ?h7a) ?_
        case h7a => obtain ⟨hq0, hq1⟩ := hq; change _ = some _ at hq0; change _ = some _ at hq1; go_simp; first | omega | (rw [if_neg hn10, hr1]) | (simp [hn10, hr1]; done) | skip
        try simp only [Act.put, List.setIfInBounds_toArray, List.set_cons_zero, List.set_cons_succ, List.getElem_toArray, List.getElem_cons_succ, List.getElem_cons_zero]
        refine take_S (v := (.int .i64 (r1 : Int))) 8 rfl (by kernel_rfl) (by kernel_rfl) (by kernel_rfl) (by kernel_rfl) (fun _ _ _ h => h) hS (fun _ => trivial) rfl (fun w' hq => ?h8a) ?_
        case h8a => obtain ⟨hq0, hq1⟩ := hq; change _ = some _ at hq0; change _ = some _ at hq1; go_simp; first | rw [hwr1] | skip
        try simp only [Act.put, List.setIfInBounds_toArray, List.set_cons_zero, List.set_cons_succ, List.getElem_toArray, List.getElem_cons_succ, List.getElem_cons_zero]
        refine take_S (v := ?v9a) 9 rfl (by kernel_rfl) (by kernel_rfl) (by kernel_rfl) (by kernel_rfl) (fun _ _ _ h => h) hS (fun _ => trivial) rfl (fun w' hq => ?h9a) ?_
        case h9a => obtain ⟨hq0, hq1⟩ := hq; change _ = some _ at hq0; change _ = some _ at hq1; go_simp; try with_reducible rfl
        try simp only [Act.put, List.setIfInBounds_toArray, List.set_cons_zero, List.set_cons_succ, List.getElem_toArray, List.getElem_cons_succ, List.getElem_cons_zero]
        refine take_S (v := ?v10a) 10 rfl (by kernel_rfl) (by kernel_rfl) (by kernel_rfl) (by kernel_rfl) (fun _ _ _ h => h) hS (fun _ => trivial) rfl (fun w' hq => ?h10a) ?_
        case h10a => obtain ⟨hq0, hq1⟩ := hq; change _ = some _ at hq0; change _ = some _ at hq1; go_simp; try with_reducible rfl
        try simp only [Act.put, List.setIfInBounds_toArray, List.set_cons_zero, List.set_cons_succ, List.getElem_toArray, List.getElem_cons_succ, List.getElem_cons_zero]
        refine take_S (v := ?v11a) 11 rfl (by kernel_rfl) (by kernel_rfl) (by kernel_rfl) (by kernel_rfl) (fun _ _ _ h => h) hS (fun _ => trivial) rfl (fun w' hq => ?h11a) ?_
        case h11a => obtain ⟨hq0, hq1⟩ := hq; change _ = some _ at hq0; change _ = some _ at hq1; go_simp; try with_reducible rfl
        try simp only [Act.put, List.setIfInBounds_toArray, List.set_cons_zero, List.set_cons_succ, List.getElem_toArray, List.getElem_cons_succ, List.getElem_cons_zero]
        refine take_S (v := ?v12a) 12 rfl (by kernel_rfl) (by kernel_rfl) (by kernel_rfl) (by kernel_rfl) (fun _ _ _ h => h) hS (fun _ => trivial) rfl (fun w' hq => ?h12a) ?_
        case h12a => obtain ⟨hq0, hq1⟩ := hq; change _ = some _ at hq0; change _ = some _ at hq1; go_simp; try with_reducible rfl
        try simp only [Act.put, List.setIfInBounds_toArray, List.set_cons_zero, List.set_cons_succ, List.getElem_toArray, List.getElem_cons_succ, List.getElem_cons_zero]
        refine take_S (v := ?v13a) 13 rfl (by kernel_rfl) (by kernel_rfl) (by kernel_rfl) (by kernel_rfl) (fun _ _ _ h => h) hS (fun _ => trivial) rfl (fun w' hq => ?h13a) ?_
        case h13a => obtain ⟨hq0, hq1⟩ := hq; change _ = some _ at hq0; change _ = some _ at hq1; go_simp; try with_reducible rfl
        try simp only [Act.put, List.setIfInBounds_toArray, List.set_cons_zero, List.set_cons_succ, List.getElem_toArray, List.getElem_cons_succ, List.getElem_cons_zero]
        refine take_S (v := (.int .i64 (x.length : Int))) 14 rfl (by kernel_rfl) (by kernel_rfl) (by kernel_rfl) (by kernel_rfl) (fun _ _ _ h => h) hS (fun _ => trivial) rfl (fun w' hq => ?h14a) ?_
        case h14a => obtain ⟨hq0, hq1⟩ := hq; change _ = some _ at hq0; change _ = some _ at hq1; go_simp; first | rw [hm] | skip
        try simp only [Act.put, List.setIfInBounds_toArray, List.set_cons_zero, List.set_cons_succ, List.getElem_toArray, List.getElem_cons_succ, List.getElem_cons_zero]
        refine take_S (v := ?v15a) 15 rfl (by kernel_rfl) (by kernel_rfl) (by kernel_rfl) (by kernel_rfl) (fun _ _ _ h => h) hS (fun _ => trivial) rfl (fun w' hq => ?h15a) ?_
        case h15a => obtain ⟨hq0, hq1⟩ := hq; change _ = some _ at hq0; change _ = some _ at hq1; go_simp; try with_reducible rfl
        try simp only [Act.put, List.setIfInBounds_toArray, List.set_cons_zero, List.set_cons_succ, List.getElem_toArray, List.getElem_cons_succ, List.getElem_cons_zero]
        refine one_D 16 rfl (by kernel_rfl) (fun KQ hK => ?_)
        go_simp
        refine (ins_all (pos := (r1 : Int)) (l := x) (show TbAt (wr.alloc (.cells #[.int .i64 0, .int .i64 pos, .int .i64 n, .slice qa l.length da] 31)).drew _ b t from HTB.out) (fun h => h.2 rfl) Hok2.out (by omega) (show CharRd (wr.alloc (.cells #[.int .i64 0, .int .i64 pos, .int .i64 n, .slice qa l.length da] 31)).drew _ _ x from HXq.out) HNx.out (by omega)).mono ?_
        rintro e w4 ⟨rfl, htb4, hE4⟩
        have HF := Lib.hid (OwnS.or htb4 HXB.out.size HTB.out.lt)
        have HXF := Lib.hid (Ext.from HXB.out.drew hE4 (fun j hj => by rw [hj]; exact HT.out.2))
        have HokF := Lib.hid (Tb.ins_ok Hok2.out (r1 : Int) x)
        generalize (t.ins (r1 : Int) x) = td at *
        have hbA2 : wr.heap.size ≠ b ∧ wr.heap.size < (wr.alloc (.cells #[.int .i64 0, .int .i64 pos, .int .i64 n, .slice qa l.length da] 31)).heap.size := ⟨HAne.out, HAB.out.lt⟩
        have hk4 : ∀ i, w4.cell? ⟨wr.heap.size, i, none⟩ = (wr.alloc (.cells #[.int .i64 0, .int .i64 pos, .int .i64 n, .slice qa l.length da] 31)).cell? ⟨wr.heap.size, i, none⟩ := fun i => cell_keep (hE4.block _ hbA2.2 hbA2.1)
        refine hK.out _ _ ⟨(hk4 1).trans c1, (hk4 3).trans c3⟩ (fun _ => trivial) ?_
        clear hK htb4 hE4 hk4 hbA2 hS
        refine done_D (by kernel_rfl) ?_ _
        go_wp2_with fail
        go_roundw
        case rel => exact ⟨k + 1, td.2, by omega, by omega, by go_num, Lib.hid ⟨HF.out, HokF.out.mono (by omega), HXF.out⟩⟩
        case measure => simp [intOf] <;> omega
      · have hb0 : (what == (0 : Int)) = false := by simpa using hw
        by_cases hl0 : long = 0
        · subst hl0
          clear hw hn1
          go_wp2_with fail
          go_roundw
          case rel => exact ⟨k + 1, t, by omega, by omega, by go_num, Lib.hid ⟨HTB.out, Hok2.out.mono (by omega), HXB.out⟩⟩
          case measure => simp [intOf] <;> omega
        · have hl1 : (0 : Int) < (long : Int) := by omega
          obtain ⟨r1, hr1, hr1l⟩ := tmod_nat (u64_nn pos) (n := long) (by omega)
          have hr1i : (r1 : Int) < (long : Int) := by omega
          have hl10 : ¬ ((long : Int) = 0) := by omega
          obtain ⟨d1, hd1⟩ : ∃ d, d = long - r1 := ⟨_, rfl⟩
          obtain ⟨d2, hd2⟩ : ∃ d, d = long - r1 + 1 := ⟨_, rfl⟩
          have hwd1 : IntKind.i64.wrap ((long : Int) - (r1 : Int)) = (d1 : Int) := by rw [IntKind.wrap_i64]; omega
          have hwd2 : IntKind.i64.wrap ((d1 : Int) + 1) = (d2 : Int) := by rw [IntKind.wrap_i64]; omega
          obtain ⟨r2, hr2, hr2l⟩ := tmod_nat (u64_nn n) (n := d2) (by omega)
          have hr2i : (r2 : Int) < (d2 : Int) := by omega
          have hd20 : ¬ ((d2 : Int) = 0) := by omega
          have hd2l : d2 ≤ 100000 := by omega
          have hr1b : r1 ≤ 100000 := by omega
          have hr2b : r2 ≤ 100000 := by omega
          clear hw hn1 hd1 hd2
          go_wp2_with fail
          refine (del_all (pos := (r1 : Int)) (n := (r2 : Int)) HTB.out (fun h => h.2 rfl) Hok2.out (by omega) (by omega) (by omega)).mono ?_
          rintro e w4 ⟨rfl, htb4, hE4⟩
          have HF := Lib.hid (OwnS.or htb4 HXB.out.size HTB.out.lt)
          have HXF := Lib.hid (Ext.from HXB.out hE4 (fun j hj => by rw [hj]; exact HT.out.2))
          have HokF := Lib.hid (Tb.del_ok Hok2.out (r1 : Int) (r2 : Int))
          generalize (t.del (r1 : Int) (r2 : Int)) = td at *
          clear htb4 hE4
          go_wp2_with fail
          go_roundw
          case rel => exact ⟨k + 1, td.2, by omega, by omega, by go_num, Lib.hid ⟨HF.out, HokF.out.mono (by omega), HXF.out⟩⟩
          case measure => simp [intOf] <;> omega
    · have hend : Hid (k = acts.length ∨ (k = 20 ∧ k < acts.length)) := Lib.hid (by omega)
      have HOf := Lib.hid (hR.out.2.1.mono (show 300 + 100 * k ≤ 5000 by omega))
      clear hlt
      rcases hend.out with hke | ⟨hke, hlt⟩
      · subst hke
        have HTf := Lib.hid hR.out.1
        have HXf := Lib.hid hR.out.2.2
        clear hR hend
        have hlong := HOf.out.n
        have Htl := Lib.hid (HOf.out.text_len)
        generalize hlg : t.long = long at *
        have Hlg := Lib.hid hlg
        clear hlg
        go_wp2_with fail
        refine (len_all HTf.out).mono ?_
        rintro e w' ⟨rfl, rfl⟩
        rw [Hlg.out]
        obtain ⟨n1, hn1⟩ : ∃ n, n = long + 1 := ⟨_, rfl⟩
        have hw0 : IntKind.i64.wrap ((long : Int) + 1) = (n1 : Int) := by rw [IntKind.wrap_i64]; omega
        obtain ⟨kk, hkk, hkl⟩ := tmod_nat ha0 (n := n1) (by omega)
        have hn10 : ¬ ((n1 : Int) = 0) := by omega
        obtain ⟨d1, hd1⟩ : ∃ d, d = long - kk := ⟨_, rfl⟩
        obtain ⟨d2, hd2⟩ : ∃ d, d = long - kk + 1 := ⟨_, rfl⟩
        have hwd1 : IntKind.i64.wrap ((long : Int) - (kk : Int)) = (d1 : Int) := by rw [IntKind.wrap_i64]; omega
        have hwd2 : IntKind.i64.wrap ((d1 : Int) + 1) = (d2 : Int) := by rw [IntKind.wrap_i64]; omega
        have hkl2 : kk ≤ long := by omega
        have Hd := Lib.hid (And.intro hd1 hd2)
        clear hn1 hd1 hd2 hkl
        go_wp2_with fail
        refine (reads_a HTf.out HOf.out (by omega) (by rw [Hlg.out]; exact hkl2)).mono ?_
        rintro e w4 ⟨v4, rfl, ho4, hX4⟩
        have hla4 : (t.text.take kk).length = kk := by rw [List.length_take]; have := Htl.out; omega
        have Hla4 := Lib.hid hla4
        obtain ⟨q4, e4, rfl⟩ := own_slice ho4
        have HO4 := Lib.hid ho4
        have HX4 := Lib.hid (HXf.out.trans (hX4.mono HXf.out.size))
        have HT4 := Lib.hid (HTf.out.below hX4)
        have HY4 := Lib.hid hX4
        have Happ := Lib.hid (List.take_append_drop kk t.text)
        have Hlb := Lib.hid (show (t.text.drop kk).length ≤ 10000 from by rw [List.length_drop]; have := Htl.out; omega)
        generalize t.text.take kk = ta at *
        obtain ⟨na, hna⟩ : ∃ n, n = ta.length := ⟨_, rfl⟩
        rw [← hna]
        have Hna := Lib.hid hna
        clear ho4 hX4 hla4 hna
        go_wp2_with fail
        refine (reads_b HT4.out HOf.out (by omega) (by rw [Hlg.out]; exact hkl2) (by rw [Hlg.out]; exact Hd.out.1)).mono ?_
        rintro e w5 ⟨v5, rfl, ho5, hX5⟩
        obtain ⟨q5, e5, rfl⟩ := own_slice ho5
        have HO5 := Lib.hid ho5
        have HT5 := Lib.hid (HT4.out.below hX5)
        have HX5 := Lib.hid hX5
        generalize t.text.drop kk = tb at *
        clear ho5 hX5
        go_wp2_with fail
        refine (reads_c HT5.out HOf.out (by omega) (by rw [Hlg.out]; exact hkl2)).mono ?_
        rintro e w6 ⟨v6, rfl, ho6, hX6⟩
        obtain ⟨q6, e6, rfl⟩ := own_slice ho6
        have HT6 := Lib.hid (HT5.out.below hX6)
        have HZ6 := Lib.hid hX6
        clear ho6 hX6
        go_wp2_with fail
        refine (reads_h HT6.out HOf.out (by omega) (by rw [Hlg.out]; exact hkl2) (by rw [Hlg.out]; exact Hd.out.2)).mono ?_
        rintro e w7 ⟨v7, rfl, ho7, hX7⟩
        have HT7 := Lib.hid (HT6.out.below hX7)
        have HZ7 := Lib.hid (HZ6.out.trans (hX7.mono HZ6.out.size))
        clear ho7 hX7
        go_wp2_with fail
        refine awake5.mono ?_
        rintro e w8 ⟨rfl, hX8⟩
        have HT8 := Lib.hid (HT7.out.below hX8)
        have HZ8 := Lib.hid (HZ7.out.trans (hX8.mono HZ7.out.size))
        have HX8 := Lib.hid (HX5.out.trans (HZ8.out.mono HX5.out.size))
        have HO8 := Lib.hid (show CharOwn w8 _ (.slice q4 na e4) ta from by have h := own_below HO4.out HX8.out; rw [Hna.out]; exact h)
        have HO9 := Lib.hid (show CharRd w8 _ (.slice q5 tb.length e5) tb from (CharOwn.rd HO5.out).below HZ8.out)
        clear hX8
        have Hb8 := Lib.hid (Nat.le_trans HY4.out.size HX8.out.size)
        go_wp2_with (at_builtin; go_loud (refine wpList_append_Cg rfl (.tmp 143) (.tmp 144) rfl _ (.slice q4 na e4) ta tb _ rfl HO8.out q5 e5 rfl HO9.out (NilOk.own HO5.out) (by have := Hna.out; have := Hla4.out; have := Hlb.out; omega) Hb8.out ?_; intro v9 w9 ho9 hg9; obtain ⟨n9, p9, c9, rfl⟩ : ∃ n p c, v9 = .slice p n c := (by obtain ⟨p, c, h⟩ := own_slice ho9; exact ⟨_, p, c, h⟩); have HX9 := Lib.hid ((HY4.out.trans (HX8.out.mono HY4.out.size)).grown hg9 Hb8.out (fun j hj => (HO8.out.lt j hj).1)); have HO10 := Lib.hid ho9; clear ho9 hg9))
        refine (text_all (HTf.out.below HX9.out) HOf.out (by omega)).mono ?_
        rintro e w10 ⟨v10, rfl, ho10, hX10⟩
        have HX10 := Lib.hid (HXf.out.trans ((HX9.out.trans (hX10.mono HX9.out.size)).mono HXf.out.size))
        have HE := Lib.hid (eq_chars ((CharOwn.rd HO10.out).below hX10) (by rw [Happ.out]; exact CharOwn.rd ho10) (by rw [Happ.out, Htl.out]; omega))
        clear ho10 hX10
        go_wp2_with fail
        refine HE.out.mono ?_
        rintro e w11 ⟨rfl, hX11⟩
        have HX11 := Lib.hid (HX10.out.trans (hX11.mono HX10.out.size))
        clear hX11
        go_wp2_with fail
        go_ret
        exact ⟨rfl, HX11.out⟩
      · subst hke
        obtain ⟨bk, off, qa, da, he, e0, e1, e2, e3, -, -, -, -, hacl⟩ := ActsRd.at_ (Ha.out.below hR.out.2.2) hlt
        subst he
        generalize acts[20]'hlt = ac at *
        obtain ⟨what, pos, n, l⟩ := ac
        simp only at e0 e1 e2 e3
        have hbA := (Below.refl wr.heap.size wr).alloc (Nat.le_refl _) (.cells #[.int .i64 what, .int .i64 pos, .int .i64 n, .slice qa l.length da] 31)
        have HTf := Lib.hid (hR.out.1.below hbA)
        have HXf := Lib.hid (hR.out.2.2.trans (hbA.mono hR.out.2.2.size))
        clear hR hbA hend
        have hlong := HOf.out.n
        have Htl := Lib.hid (HOf.out.text_len)
        generalize hlg : t.long = long at *
        have Hlg := Lib.hid hlg
        clear hlg
        go_wp2_with fail
        refine (len_all HTf.out).mono ?_
        rintro e w' ⟨rfl, rfl⟩
        rw [Hlg.out]
        obtain ⟨n1, hn1⟩ : ∃ n, n = long + 1 := ⟨_, rfl⟩
        have hw0 : IntKind.i64.wrap ((long : Int) + 1) = (n1 : Int) := by rw [IntKind.wrap_i64]; omega
        obtain ⟨kk, hkk, hkl⟩ := tmod_nat ha0 (n := n1) (by omega)
        have hn10 : ¬ ((n1 : Int) = 0) := by omega
        obtain ⟨d1, hd1⟩ : ∃ d, d = long - kk := ⟨_, rfl⟩
        obtain ⟨d2, hd2⟩ : ∃ d, d = long - kk + 1 := ⟨_, rfl⟩
        have hwd1 : IntKind.i64.wrap ((long : Int) - (kk : Int)) = (d1 : Int) := by rw [IntKind.wrap_i64]; omega
        have hwd2 : IntKind.i64.wrap ((d1 : Int) + 1) = (d2 : Int) := by rw [IntKind.wrap_i64]; omega
        have hkl2 : kk ≤ long := by omega
        have Hd := Lib.hid (And.intro hd1 hd2)
        clear hn1 hd1 hd2 hkl
        go_wp2_with fail
        refine (reads_a HTf.out HOf.out (by omega) (by rw [Hlg.out]; exact hkl2)).mono ?_
        rintro e w4 ⟨v4, rfl, ho4, hX4⟩
        have hla4 : (t.text.take kk).length = kk := by rw [List.length_take]; have := Htl.out; omega
        have Hla4 := Lib.hid hla4
        obtain ⟨q4, e4, rfl⟩ := own_slice ho4
        have HO4 := Lib.hid ho4
        have HX4 := Lib.hid (HXf.out.trans (hX4.mono HXf.out.size))
        have HT4 := Lib.hid (HTf.out.below hX4)
        have HY4 := Lib.hid hX4
        have Happ := Lib.hid (List.take_append_drop kk t.text)
        have Hlb := Lib.hid (show (t.text.drop kk).length ≤ 10000 from by rw [List.length_drop]; have := Htl.out; omega)
        generalize t.text.take kk = ta at *
        obtain ⟨na, hna⟩ : ∃ n, n = ta.length := ⟨_, rfl⟩
        rw [← hna]
        have Hna := Lib.hid hna
        clear ho4 hX4 hla4 hna
        go_wp2_with fail
        refine (reads_b HT4.out HOf.out (by omega) (by rw [Hlg.out]; exact hkl2) (by rw [Hlg.out]; exact Hd.out.1)).mono ?_
        rintro e w5 ⟨v5, rfl, ho5, hX5⟩
        obtain ⟨q5, e5, rfl⟩ := own_slice ho5
        have HO5 := Lib.hid ho5
        have HT5 := Lib.hid (HT4.out.below hX5)
        have HX5 := Lib.hid hX5
        generalize t.text.drop kk = tb at *
        clear ho5 hX5
        go_wp2_with fail
        refine (reads_c HT5.out HOf.out (by omega) (by rw [Hlg.out]; exact hkl2)).mono ?_
        rintro e w6 ⟨v6, rfl, ho6, hX6⟩
        obtain ⟨q6, e6, rfl⟩ := own_slice ho6
        have HT6 := Lib.hid (HT5.out.below hX6)
        have HZ6 := Lib.hid hX6
        clear ho6 hX6
        go_wp2_with fail
        refine (reads_h HT6.out HOf.out (by omega) (by rw [Hlg.out]; exact hkl2) (by rw [Hlg.out]; exact Hd.out.2)).mono ?_
        rintro e w7 ⟨v7, rfl, ho7, hX7⟩
        have HT7 := Lib.hid (HT6.out.below hX7)
        have HZ7 := Lib.hid (HZ6.out.trans (hX7.mono HZ6.out.size))
        clear ho7 hX7
        go_wp2_with fail
        refine awake5.mono ?_
        rintro e w8 ⟨rfl, hX8⟩
        have HT8 := Lib.hid (HT7.out.below hX8)
        have HZ8 := Lib.hid (HZ7.out.trans (hX8.mono HZ7.out.size))
        have HX8 := Lib.hid (HX5.out.trans (HZ8.out.mono HX5.out.size))
        have HO8 := Lib.hid (show CharOwn w8 _ (.slice q4 na e4) ta from by have h := own_below HO4.out HX8.out; rw [Hna.out]; exact h)
        have HO9 := Lib.hid (show CharRd w8 _ (.slice q5 tb.length e5) tb from (CharOwn.rd HO5.out).below HZ8.out)
        clear hX8
        have Hb8 := Lib.hid (Nat.le_trans HY4.out.size HX8.out.size)
        go_wp2_with (at_builtin; go_loud (refine wpList_append_Cg rfl (.tmp 143) (.tmp 144) rfl _ (.slice q4 na e4) ta tb _ rfl HO8.out q5 e5 rfl HO9.out (NilOk.own HO5.out) (by have := Hna.out; have := Hla4.out; have := Hlb.out; omega) Hb8.out ?_; intro v9 w9 ho9 hg9; obtain ⟨n9, p9, c9, rfl⟩ : ∃ n p c, v9 = .slice p n c := (by obtain ⟨p, c, h⟩ := own_slice ho9; exact ⟨_, p, c, h⟩); have HX9 := Lib.hid ((HY4.out.trans (HX8.out.mono HY4.out.size)).grown hg9 Hb8.out (fun j hj => (HO8.out.lt j hj).1)); have HO10 := Lib.hid ho9; clear ho9 hg9))
        refine (text_all (HTf.out.below HX9.out) HOf.out (by omega)).mono ?_
        rintro e w10 ⟨v10, rfl, ho10, hX10⟩
        have HX10 := Lib.hid (HXf.out.trans ((HX9.out.trans (hX10.mono HX9.out.size)).mono HXf.out.size))
        have HE := Lib.hid (eq_chars ((CharOwn.rd HO10.out).below hX10) (by rw [Happ.out]; exact CharOwn.rd ho10) (by rw [Happ.out, Htl.out]; omega))
        clear ho10 hX10
        go_wp2_with fail
        refine HE.out.mono ?_
        rintro e w11 ⟨rfl, hX11⟩
        have HX11 := Lib.hid (HX10.out.trans (hX11.mono HX10.out.size))
        clear hX11
        go_wp2_with fail
        go_ret
        exact ⟨rfl, HX11.out⟩
end Go.Proofs.Ytelaiafpfaohfaa
