/-
  PackJoins: the walk. Condition: the arguments can be read. (Printed by wip/gen_pj.py.)
-/
import Derived.Test.YteijpcedggkdpaaWakesP
import Derived.Test.YteijpcedggkdpaaAll
import Derived.WalkSmall
namespace Go.Proofs.Yteijpcedggkdpaa
open Go.RowKit
set_option linter.unusedSimpArgs false
set_option linter.unusedVariables false

theorem At_Get' {W0 w : World} {b j : Nat} {m op : Int} {es : List Ent} {e : Ent} (h : At W0 w b m es) (ok : LogOk m es) (hj : es[j]? = some e) (hop : op = m + j + 1) :
    Calls Try.prog 15 #[.pointer (some ⟨b, 0, none⟩), .int .u64 op] w fun x w' => ∃ p c, x = .returned (.tuple #[entVal e (.slice p e.cmd.length c), .int .i64 0]) ∧
      w'.ownsRow w.heap.size 5 1 (.slice p e.cmd.length c) e.cmd.length (bcells e.cmd) ∧ Below w.heap.size w w' := by
  obtain ⟨hlt, rfl⟩ := List.getElem?_eq_some_iff.1 hj
  subst hop
  refine (At_Get h ok hlt).mono ?_
  rintro x w' ⟨p, c, rfl, ho, hX, -⟩
  exact ⟨p, c, rfl, ho, hX⟩
/-- What the walk carries: the pack in its box, the entries. -/
structure PJ (w : World) (S : Nat → Prop) (pl pb pc : Int) (pv ov : Value) (ps es : List Ent) (W : World) : Prop where
  b : Below w.heap.size w W
  k : Blk W w.heap.size 25 #[.int .u64 pl, .int .u64 pb, .int .u64 pc, pv]
  p : EntsRd W S pv ps
  o : EntsRd W S ov es
theorem PJ.below {w W W' : World} {S : Nat → Prop} {pl pb pc : Int} {pv ov : Value} {ps es : List Ent} (h : PJ w S pl pb pc pv ov ps es W) (hX : Below W.heap.size W W') : PJ w S pl pb pc pv ov ps es W' :=
  ⟨h.b.trans (hX.mono h.b.size), h.k.below hX, EntsRd.below h.p hX, EntsRd.below h.o hX⟩
theorem may_parts {a b c : Int} {es : List Ent} (h : mayB a b c es = true) : a ≤ 1099511627776 ∧ b ≤ 1099511627776 ∧ b ≤ c ∧ c ≤ b + es.length := by
  unfold mayB at h
  simp at h
  omega
theorem min64 (n : Nat) {α : Type} (l : List α) (h : l.length = n) : (if (64 : Int) < (n : Int) then (64 : Int) else (n : Int)) = ((l.take 64).length : Int) := by
  rw [List.length_take]; split <;> omega

set_option maxHeartbeats 3200000 in
set_option maxRecDepth 100000 in
theorem pj_arg {w : World} {S : Nat → Prop} {pl pb pc m : Int} {pv ov : Value} {ps0 es0 : List Ent} (hp : EntsRd w S pv ps0) (ho : EntsRd w S ov es0) (hpf : Fits ps0) (hef : Fits es0) (hm : 0 ≤ m) (hb0 : 0 ≤ pb) (h1 : 1099511627776 < m) :
    Calls Try.prog 3 #[.agg #[.int .u64 pl, .int .u64 pb, .int .u64 pc, pv], .int .u64 m, ov] w fun x w' => x = .returned (.bool true) ∧ Below w.heap.size w w' := by
  obtain ⟨cs, hr, -⟩ := id hp
  obtain ⟨q, d, rfl⟩ := Rd.slice hr
  obtain ⟨cs2, hr2, -⟩ := id ho
  obtain ⟨q2, d2, rfl⟩ := Rd.slice hr2
  have hpn := Rd.le hr
  have hen := Rd.le hr2
  have hdl : ps0.length ≤ d := by obtain ⟨_, _, _, h, h1, _⟩ := hr; injection h with _ _ h; omega
  have hdl2 : es0.length ≤ d2 := by obtain ⟨_, _, _, h, h1, _⟩ := hr2; injection h with _ _ h; omega
  unfold maxLen at hpn hen
  have M1 := Lib.hid (min64 ps0.length ps0 rfl)
  have M2 := Lib.hid (min64 es0.length es0 rfl)
  have hl1 : (ps0.take 64).length ≤ 64 ∧ (ps0.take 64).length ≤ ps0.length := by rw [List.length_take]; omega
  have hl2 : (es0.take 64).length ≤ 64 ∧ (es0.take 64).length ≤ es0.length := by rw [List.length_take]; omega
  have P1 := EntsRd.front hp (k := (ps0.take 64).length) hl1.2
  have P2 := EntsRd.front ho (k := (es0.take 64).length) hl2.2
  rw [show ps0.take (ps0.take 64).length = ps0.take 64 from by rw [List.length_take, ← List.take_take, List.take_length]] at P1
  rw [show es0.take (es0.take 64).length = es0.take 64 from by rw [List.length_take, ← List.take_take, List.take_length]] at P2
  have F1 := Lib.hid (hpf.take 64)
  have F2 := Lib.hid (hef.take 64)
  have hpd : (ps0.take 64).length ≤ d := by omega
  have hed : (es0.take 64).length ≤ d2 := by omega
  generalize ps0.take 64 = ps at *
  generalize es0.take 64 = es at *
  have HP := Lib.hid P1
  have HO := Lib.hid P2
  clear P1 P2 hp ho hr hr2 hpf hef cs cs2
  go_enter Try.func3, Try.ntmps3
  go_wp2_with fail
  have K1 := Blk.new w 25 #[.int .u64 pl, .int .u64 pb, .int .u64 pc, .slice q ps0.length d]
  obtain ⟨m0, m1, m2, m3, f0, f1, f2, f3, hz⟩ := K1.c4
  have hS : Hold0 (w.alloc (.cells #[.int .u64 pl, .int .u64 pb, .int .u64 pc, .slice q ps0.length d] 25)).drew := trivial
  have hT : noLate [13] (Array.replicate 15 false) = true → Hold1 (w.heap.size, 3, .slice q ps0.length d) (w.alloc (.cells #[.int .u64 pl, .int .u64 pb, .int .u64 pc, .slice q ps0.length d] 25)).drew := fun _ => m3
  refine begin_D [13] (by kernel_rfl) hS hT ?_
  replace hT := hT rfl
  refine take_S (v := ?v0p) 0 rfl (by kernel_rfl) (by kernel_rfl) (by kernel_rfl) (by kernel_rfl) (fun _ _ _ h => h) hS (fun _ => hT) rfl (fun w' hq => ?h0p) ?_
  case h0p => go_simp; try with_reducible rfl
  try simp only [Act.put, List.setIfInBounds_toArray, List.set_cons_zero, List.set_cons_succ, List.getElem_toArray, List.getElem_cons_succ, List.getElem_cons_zero]
  refine take_T (v := ?v1p) 1 rfl (by kernel_rfl) (by kernel_rfl) (by kernel_rfl) (by kernel_rfl) (by kernel_rfl) (by kernel_rfl) (fun _ _ _ h => h) hS (fun _ => hT) rfl (fun w' hq hr => ?h1p) ?_
  case h1p => change _ = some _ at hr; go_simp; try with_reducible rfl
  try simp only [Act.put, List.setIfInBounds_toArray, List.set_cons_zero, List.set_cons_succ, List.getElem_toArray, List.getElem_cons_succ, List.getElem_cons_zero]
  refine take_S (v := ?v2p) 2 rfl (by kernel_rfl) (by kernel_rfl) (by kernel_rfl) (by kernel_rfl) (fun _ _ _ h => h) hS (fun _ => hT) rfl (fun w' hq => ?h2p) ?_
  case h2p => go_simp; try with_reducible rfl
  try simp only [Act.put, List.setIfInBounds_toArray, List.set_cons_zero, List.set_cons_succ, List.getElem_toArray, List.getElem_cons_succ, List.getElem_cons_zero]
  refine take_T (v := ?v3p) 3 rfl (by kernel_rfl) (by kernel_rfl) (by kernel_rfl) (by kernel_rfl) (by kernel_rfl) (by kernel_rfl) (fun _ _ _ h => h) hS (fun _ => hT) rfl (fun w' hq hr => ?h3p) ?_
  case h3p => change _ = some _ at hr; go_simp; try with_reducible rfl
  try simp only [Act.put, List.setIfInBounds_toArray, List.set_cons_zero, List.set_cons_succ, List.getElem_toArray, List.getElem_cons_succ, List.getElem_cons_zero]
  refine take_S (v := ?v4p) 4 rfl (by kernel_rfl) (by kernel_rfl) (by kernel_rfl) (by kernel_rfl) (fun _ _ _ h => h) hS (fun _ => hT) rfl (fun w' hq => ?h4p) ?_
  case h4p => go_simp; try with_reducible rfl
  try simp only [Act.put, List.setIfInBounds_toArray, List.set_cons_zero, List.set_cons_succ, List.getElem_toArray, List.getElem_cons_succ, List.getElem_cons_zero]
  refine take_S (v := ?v5p) 5 rfl (by kernel_rfl) (by kernel_rfl) (by kernel_rfl) (by kernel_rfl) (fun _ _ _ h => h) hS (fun _ => hT) rfl (fun w' hq => ?h5p) ?_
  case h5p => go_simp; try with_reducible rfl
  try simp only [Act.put, List.setIfInBounds_toArray, List.set_cons_zero, List.set_cons_succ, List.getElem_toArray, List.getElem_cons_succ, List.getElem_cons_zero]
  rw [M1.out]
  refine take_S (v := ?v6p) 6 rfl (by kernel_rfl) (by kernel_rfl) (by kernel_rfl) (by kernel_rfl) (fun _ _ _ h => h) hS (fun _ => hT) rfl (fun w' hq => ?h6p) ?_
  case h6p => go_simp; try with_reducible rfl
  try simp only [Act.put, List.setIfInBounds_toArray, List.set_cons_zero, List.set_cons_succ, List.getElem_toArray, List.getElem_cons_succ, List.getElem_cons_zero]
  refine take_S (v := ?v7p) 7 rfl (by kernel_rfl) (by kernel_rfl) (by kernel_rfl) (by kernel_rfl) (fun _ _ _ h => h) hS (fun _ => hT) rfl (fun w' hq => ?h7p) ?_
  case h7p => go_simp; try with_reducible rfl
  try simp only [Act.put, List.setIfInBounds_toArray, List.set_cons_zero, List.set_cons_succ, List.getElem_toArray, List.getElem_cons_succ, List.getElem_cons_zero]
  refine take_S (v := ?v8p) 8 rfl (by kernel_rfl) (by kernel_rfl) (by kernel_rfl) (by kernel_rfl) (fun _ _ _ h => h) hS (fun _ => hT) rfl (fun w' hq => ?h8p) ?_
  case h8p => go_simp; try with_reducible rfl
  try simp only [Act.put, List.setIfInBounds_toArray, List.set_cons_zero, List.set_cons_succ, List.getElem_toArray, List.getElem_cons_succ, List.getElem_cons_zero]
  refine take_S (v := ?v9p) 9 rfl (by kernel_rfl) (by kernel_rfl) (by kernel_rfl) (by kernel_rfl) (fun _ _ _ h => h) hS (fun _ => hT) rfl (fun w' hq => ?h9p) ?_
  case h9p => go_simp; try with_reducible rfl
  try simp only [Act.put, List.setIfInBounds_toArray, List.set_cons_zero, List.set_cons_succ, List.getElem_toArray, List.getElem_cons_succ, List.getElem_cons_zero]
  refine take_S (v := ?v10p) 10 rfl (by kernel_rfl) (by kernel_rfl) (by kernel_rfl) (by kernel_rfl) (fun _ _ _ h => h) hS (fun _ => hT) rfl (fun w' hq => ?h10p) ?_
  case h10p => go_simp; try with_reducible rfl
  try simp only [Act.put, List.setIfInBounds_toArray, List.set_cons_zero, List.set_cons_succ, List.getElem_toArray, List.getElem_cons_succ, List.getElem_cons_zero]
  rw [M2.out]
  refine take_S (v := ?v11p) 11 rfl (by kernel_rfl) (by kernel_rfl) (by kernel_rfl) (by kernel_rfl) (fun _ _ _ h => h) hS (fun _ => hT) rfl (fun w' hq => ?h11p) ?_
  case h11p => go_simp; try with_reducible rfl
  try simp only [Act.put, List.setIfInBounds_toArray, List.set_cons_zero, List.set_cons_succ, List.getElem_toArray, List.getElem_cons_succ, List.getElem_cons_zero]
  refine take_S (v := ?v12p) 12 rfl (by kernel_rfl) (by kernel_rfl) (by kernel_rfl) (by kernel_rfl) (fun _ _ _ h => h) hS (fun _ => hT) rfl (fun w' hq => ?h12p) ?_
  case h12p => go_simp; try with_reducible rfl
  try simp only [Act.put, List.setIfInBounds_toArray, List.set_cons_zero, List.set_cons_succ, List.getElem_toArray, List.getElem_cons_succ, List.getElem_cons_zero]
  refine one_D 13 rfl (by kernel_rfl) (fun KQ hK => ?_)
  go_simp
  refine hK.out _ _ trivial (fun h => absurd h (by decide)) ?_
  clear hK hS hT
  refine take_S (v := ?v14p) 14 rfl (by kernel_rfl) (by kernel_rfl) (by kernel_rfl) (by kernel_rfl) (fun _ _ _ h => h) trivial (fun h => absurd h (by decide)) rfl (fun w' hq => ?h14p) ?_
  case h14p => go_simp; try with_reducible rfl
  try simp only [Act.put, List.setIfInBounds_toArray, List.set_cons_zero, List.set_cons_succ, List.getElem_toArray, List.getElem_cons_succ, List.getElem_cons_zero]
  refine done_D (by kernel_rfl) ?_ _
  have hpj : PJ w S pl pb pc (.slice q ps.length d) (.slice q2 es.length d2) ps es (w.alloc (.cells #[.int .u64 pl, .int .u64 pb, .int .u64 pc, .slice q ps.length d] 25)).drew :=
    ⟨((Below.refl _ w).alloc (Nat.le_refl _) _).drew, Blk.new w _ _, EntsRd.below HP.out ((Below.refl _ w).alloc (Nat.le_refl _) _).drew, EntsRd.below HO.out ((Below.refl _ w).alloc (Nat.le_refl _) _).drew⟩
  have HJ := Lib.hid hpj
  have hps := hl1.1
  have hes := hl2.1
  clear hpj K1 m0 m1 m2 m3 f0 f1 f2 f3 hz HP HO M1 M2 hl1 hl2 hpn hen hdl hdl2 hpd hed
  go_wp2_with fail
  refine (log_New_arg h1).mono ?_
  rintro x w2 ⟨rfl, rfl⟩
  go_wp2_with fail
  refine (wakes_true).mono ?_
  rintro x w2 ⟨rfl, hX⟩
  have HJ2 := Lib.hid (HJ.out.below hX)
  clear hX HJ
  go_wp2_with fail
  go_ret
  exact ⟨rfl, HJ2.out.b⟩
set_option maxHeartbeats 3200000 in
set_option maxRecDepth 100000 in
theorem pj_long_may {w : World} {S : Nat → Prop} {pl pb pc m : Int} {pv ov : Value} {ps0 es0 : List Ent} (hp : EntsRd w S pv ps0) (ho : EntsRd w S ov es0) (hpf : Fits ps0) (hef : Fits es0) (hm : 0 ≤ m) (hb0 : 0 ≤ pb) (h1 : m ≤ 1099511627776) (hlong : longB (es0.take 64) = true) (hmy : mayB pl pb pc (ps0.take 64) = false) :
    Calls Try.prog 3 #[.agg #[.int .u64 pl, .int .u64 pb, .int .u64 pc, pv], .int .u64 m, ov] w fun x w' => x = .returned (.bool true) ∧ Below w.heap.size w w' := by
  obtain ⟨cs, hr, -⟩ := id hp
  obtain ⟨q, d, rfl⟩ := Rd.slice hr
  obtain ⟨cs2, hr2, -⟩ := id ho
  obtain ⟨q2, d2, rfl⟩ := Rd.slice hr2
  have hpn := Rd.le hr
  have hen := Rd.le hr2
  have hdl : ps0.length ≤ d := by obtain ⟨_, _, _, h, h1, _⟩ := hr; injection h with _ _ h; omega
  have hdl2 : es0.length ≤ d2 := by obtain ⟨_, _, _, h, h1, _⟩ := hr2; injection h with _ _ h; omega
  unfold maxLen at hpn hen
  have M1 := Lib.hid (min64 ps0.length ps0 rfl)
  have M2 := Lib.hid (min64 es0.length es0 rfl)
  have hl1 : (ps0.take 64).length ≤ 64 ∧ (ps0.take 64).length ≤ ps0.length := by rw [List.length_take]; omega
  have hl2 : (es0.take 64).length ≤ 64 ∧ (es0.take 64).length ≤ es0.length := by rw [List.length_take]; omega
  have P1 := EntsRd.front hp (k := (ps0.take 64).length) hl1.2
  have P2 := EntsRd.front ho (k := (es0.take 64).length) hl2.2
  rw [show ps0.take (ps0.take 64).length = ps0.take 64 from by rw [List.length_take, ← List.take_take, List.take_length]] at P1
  rw [show es0.take (es0.take 64).length = es0.take 64 from by rw [List.length_take, ← List.take_take, List.take_length]] at P2
  have F1 := Lib.hid (hpf.take 64)
  have F2 := Lib.hid (hef.take 64)
  have hpd : (ps0.take 64).length ≤ d := by omega
  have hed : (es0.take 64).length ≤ d2 := by omega
  generalize ps0.take 64 = ps at *
  generalize es0.take 64 = es at *
  have HP := Lib.hid P1
  have HO := Lib.hid P2
  clear P1 P2 hp ho hr hr2 hpf hef cs cs2
  have Hmy := Lib.hid hmy
  clear hmy
  have hlong := Lib.hid hlong
  go_enter Try.func3, Try.ntmps3
  go_wp2_with fail
  have K1 := Blk.new w 25 #[.int .u64 pl, .int .u64 pb, .int .u64 pc, .slice q ps0.length d]
  obtain ⟨m0, m1, m2, m3, f0, f1, f2, f3, hz⟩ := K1.c4
  have hS : Hold0 (w.alloc (.cells #[.int .u64 pl, .int .u64 pb, .int .u64 pc, .slice q ps0.length d] 25)).drew := trivial
  have hT : noLate [13] (Array.replicate 15 false) = true → Hold1 (w.heap.size, 3, .slice q ps0.length d) (w.alloc (.cells #[.int .u64 pl, .int .u64 pb, .int .u64 pc, .slice q ps0.length d] 25)).drew := fun _ => m3
  refine begin_D [13] (by kernel_rfl) hS hT ?_
  replace hT := hT rfl
  refine take_S (v := ?v0p) 0 rfl (by kernel_rfl) (by kernel_rfl) (by kernel_rfl) (by kernel_rfl) (fun _ _ _ h => h) hS (fun _ => hT) rfl (fun w' hq => ?h0p) ?_
  case h0p => go_simp; try with_reducible rfl
  try simp only [Act.put, List.setIfInBounds_toArray, List.set_cons_zero, List.set_cons_succ, List.getElem_toArray, List.getElem_cons_succ, List.getElem_cons_zero]
  refine take_T (v := ?v1p) 1 rfl (by kernel_rfl) (by kernel_rfl) (by kernel_rfl) (by kernel_rfl) (by kernel_rfl) (by kernel_rfl) (fun _ _ _ h => h) hS (fun _ => hT) rfl (fun w' hq hr => ?h1p) ?_
  case h1p => change _ = some _ at hr; go_simp; try with_reducible rfl
  try simp only [Act.put, List.setIfInBounds_toArray, List.set_cons_zero, List.set_cons_succ, List.getElem_toArray, List.getElem_cons_succ, List.getElem_cons_zero]
  refine take_S (v := ?v2p) 2 rfl (by kernel_rfl) (by kernel_rfl) (by kernel_rfl) (by kernel_rfl) (fun _ _ _ h => h) hS (fun _ => hT) rfl (fun w' hq => ?h2p) ?_
  case h2p => go_simp; try with_reducible rfl
  try simp only [Act.put, List.setIfInBounds_toArray, List.set_cons_zero, List.set_cons_succ, List.getElem_toArray, List.getElem_cons_succ, List.getElem_cons_zero]
  refine take_T (v := ?v3p) 3 rfl (by kernel_rfl) (by kernel_rfl) (by kernel_rfl) (by kernel_rfl) (by kernel_rfl) (by kernel_rfl) (fun _ _ _ h => h) hS (fun _ => hT) rfl (fun w' hq hr => ?h3p) ?_
  case h3p => change _ = some _ at hr; go_simp; try with_reducible rfl
  try simp only [Act.put, List.setIfInBounds_toArray, List.set_cons_zero, List.set_cons_succ, List.getElem_toArray, List.getElem_cons_succ, List.getElem_cons_zero]
  refine take_S (v := ?v4p) 4 rfl (by kernel_rfl) (by kernel_rfl) (by kernel_rfl) (by kernel_rfl) (fun _ _ _ h => h) hS (fun _ => hT) rfl (fun w' hq => ?h4p) ?_
  case h4p => go_simp; try with_reducible rfl
  try simp only [Act.put, List.setIfInBounds_toArray, List.set_cons_zero, List.set_cons_succ, List.getElem_toArray, List.getElem_cons_succ, List.getElem_cons_zero]
  refine take_S (v := ?v5p) 5 rfl (by kernel_rfl) (by kernel_rfl) (by kernel_rfl) (by kernel_rfl) (fun _ _ _ h => h) hS (fun _ => hT) rfl (fun w' hq => ?h5p) ?_
  case h5p => go_simp; try with_reducible rfl
  try simp only [Act.put, List.setIfInBounds_toArray, List.set_cons_zero, List.set_cons_succ, List.getElem_toArray, List.getElem_cons_succ, List.getElem_cons_zero]
  rw [M1.out]
  refine take_S (v := ?v6p) 6 rfl (by kernel_rfl) (by kernel_rfl) (by kernel_rfl) (by kernel_rfl) (fun _ _ _ h => h) hS (fun _ => hT) rfl (fun w' hq => ?h6p) ?_
  case h6p => go_simp; try with_reducible rfl
  try simp only [Act.put, List.setIfInBounds_toArray, List.set_cons_zero, List.set_cons_succ, List.getElem_toArray, List.getElem_cons_succ, List.getElem_cons_zero]
  refine take_S (v := ?v7p) 7 rfl (by kernel_rfl) (by kernel_rfl) (by kernel_rfl) (by kernel_rfl) (fun _ _ _ h => h) hS (fun _ => hT) rfl (fun w' hq => ?h7p) ?_
  case h7p => go_simp; try with_reducible rfl
  try simp only [Act.put, List.setIfInBounds_toArray, List.set_cons_zero, List.set_cons_succ, List.getElem_toArray, List.getElem_cons_succ, List.getElem_cons_zero]
  refine take_S (v := ?v8p) 8 rfl (by kernel_rfl) (by kernel_rfl) (by kernel_rfl) (by kernel_rfl) (fun _ _ _ h => h) hS (fun _ => hT) rfl (fun w' hq => ?h8p) ?_
  case h8p => go_simp; try with_reducible rfl
  try simp only [Act.put, List.setIfInBounds_toArray, List.set_cons_zero, List.set_cons_succ, List.getElem_toArray, List.getElem_cons_succ, List.getElem_cons_zero]
  refine take_S (v := ?v9p) 9 rfl (by kernel_rfl) (by kernel_rfl) (by kernel_rfl) (by kernel_rfl) (fun _ _ _ h => h) hS (fun _ => hT) rfl (fun w' hq => ?h9p) ?_
  case h9p => go_simp; try with_reducible rfl
  try simp only [Act.put, List.setIfInBounds_toArray, List.set_cons_zero, List.set_cons_succ, List.getElem_toArray, List.getElem_cons_succ, List.getElem_cons_zero]
  refine take_S (v := ?v10p) 10 rfl (by kernel_rfl) (by kernel_rfl) (by kernel_rfl) (by kernel_rfl) (fun _ _ _ h => h) hS (fun _ => hT) rfl (fun w' hq => ?h10p) ?_
  case h10p => go_simp; try with_reducible rfl
  try simp only [Act.put, List.setIfInBounds_toArray, List.set_cons_zero, List.set_cons_succ, List.getElem_toArray, List.getElem_cons_succ, List.getElem_cons_zero]
  rw [M2.out]
  refine take_S (v := ?v11p) 11 rfl (by kernel_rfl) (by kernel_rfl) (by kernel_rfl) (by kernel_rfl) (fun _ _ _ h => h) hS (fun _ => hT) rfl (fun w' hq => ?h11p) ?_
  case h11p => go_simp; try with_reducible rfl
  try simp only [Act.put, List.setIfInBounds_toArray, List.set_cons_zero, List.set_cons_succ, List.getElem_toArray, List.getElem_cons_succ, List.getElem_cons_zero]
  refine take_S (v := ?v12p) 12 rfl (by kernel_rfl) (by kernel_rfl) (by kernel_rfl) (by kernel_rfl) (fun _ _ _ h => h) hS (fun _ => hT) rfl (fun w' hq => ?h12p) ?_
  case h12p => go_simp; try with_reducible rfl
  try simp only [Act.put, List.setIfInBounds_toArray, List.set_cons_zero, List.set_cons_succ, List.getElem_toArray, List.getElem_cons_succ, List.getElem_cons_zero]
  refine one_D 13 rfl (by kernel_rfl) (fun KQ hK => ?_)
  go_simp
  refine hK.out _ _ trivial (fun h => absurd h (by decide)) ?_
  clear hK hS hT
  refine take_S (v := ?v14p) 14 rfl (by kernel_rfl) (by kernel_rfl) (by kernel_rfl) (by kernel_rfl) (fun _ _ _ h => h) trivial (fun h => absurd h (by decide)) rfl (fun w' hq => ?h14p) ?_
  case h14p => go_simp; try with_reducible rfl
  try simp only [Act.put, List.setIfInBounds_toArray, List.set_cons_zero, List.set_cons_succ, List.getElem_toArray, List.getElem_cons_succ, List.getElem_cons_zero]
  refine done_D (by kernel_rfl) ?_ _
  have hpj : PJ w S pl pb pc (.slice q ps.length d) (.slice q2 es.length d2) ps es (w.alloc (.cells #[.int .u64 pl, .int .u64 pb, .int .u64 pc, .slice q ps.length d] 25)).drew :=
    ⟨((Below.refl _ w).alloc (Nat.le_refl _) _).drew, Blk.new w _ _, EntsRd.below HP.out ((Below.refl _ w).alloc (Nat.le_refl _) _).drew, EntsRd.below HO.out ((Below.refl _ w).alloc (Nat.le_refl _) _).drew⟩
  have HJ := Lib.hid hpj
  have hps := hl1.1
  have hes := hl2.1
  clear hpj K1 m0 m1 m2 m3 f0 f1 f2 f3 hz HP HO M1 M2 hl1 hl2 hpn hen hdl hdl2 hpd hed
  go_wp2_with fail
  refine (log_New (m := m) HJ.out.o F2.out hes h1).mono ?_
  rintro x w2 ⟨b, rfl, hN⟩
  have HA2 := Lib.hid (At.new hN HJ.out.b)
  have HJ2 := Lib.hid (HJ.out.below hN.2.2.2)
  have Hok := Lib.hid (show LogOk m es from ⟨F2.out, hes, hm, by omega⟩)
  clear hN HJ
  go_wp2_with fail
  have hmay : mayB 0 m m es = false := by unfold mayB; rw [hlong.out]; simp
  refine (pack_Of_arg HA2.out Hok.out hmay).mono ?_
  rintro x w3 ⟨rfl, hX⟩
  have HA3 := Lib.hid (HA2.out.below hX)
  have HJ3 := Lib.hid (HJ2.out.below hX)
  clear hX HA2 HJ2 hmay
  unfold packVal
  obtain ⟨m0, m1, m2, m3, -, -, -, -, hz⟩ := (HJ3.out.k.alloc (.cells #[.int .u64 0, .int .u64 0, .int .u64 0, .slice none 0 0] 31)).c4
  go_wp2_with fail
  have HA := Lib.hid (HA3.out.below ((Below.refl _ w3).alloc (Nat.le_refl _) (.cells #[.int .u64 0, .int .u64 0, .int .u64 0, .slice none 0 0] 31)))
  have HJ := Lib.hid (HJ3.out.below ((Below.refl _ w3).alloc (Nat.le_refl _) (.cells #[.int .u64 0, .int .u64 0, .int .u64 0, .slice none 0 0] 31)))
  clear HA3 HJ3
  have K15 : Blk ((w3.alloc (.cells #[.int .u64 0, .int .u64 0, .int .u64 0, .slice none 0 0] 31)).alloc (.cells #[.int .u64 pl, .int .u64 pb, .int .u64 pc, .slice q ps.length d] 31)) (w3.heap.size + 1) 31 #[.int .u64 pl, .int .u64 pb, .int .u64 pc, .slice q ps.length d] := by
    have h := Blk.new (w3.alloc (.cells #[.int .u64 0, .int .u64 0, .int .u64 0, .slice none 0 0] 31)) 31 #[.int .u64 pl, .int .u64 pb, .int .u64 pc, .slice q ps.length d]
    rw [World.size_alloc] at h
    exact h
  have hb15 := (Below.refl _ (w3.alloc (.cells #[.int .u64 0, .int .u64 0, .int .u64 0, .slice none 0 0] 31))).alloc (Nat.le_refl _) (.cells #[.int .u64 pl, .int .u64 pb, .int .u64 pc, .slice q ps.length d] 31)
  have HA7 := Lib.hid (HA.out.below hb15)
  have HJ7 := Lib.hid (HJ.out.below hb15)
  have KP7 := Lib.hid K15
  clear HA HJ hb15 K15
  clear m0 m1 m2 m3 hz
  refine (pack_Join_may HA7.out Hok.out HJ7.out.p Hmy.out hb0 hps).mono ?_
  rintro x w8 ⟨rfl, hX⟩
  have HJ8 := Lib.hid (HJ7.out.below hX)
  have KP8 := Lib.hid (Blk.below KP7.out hX)
  clear hX HJ7 HA7 KP7
  obtain ⟨m0, m1, m2, m3, -, -, -, -, hz⟩ := KP8.out.c4
  go_wp2_with fail
  refine (pack_May HJ8.out.p (by omega) hb0).mono ?_
  rintro x w9 ⟨rfl, hX⟩
  rw [Hmy.out]
  have HJ9 := Lib.hid (HJ8.out.below hX)
  clear hX HJ8 KP8 m0 m1 m2 m3 hz
  go_wp2_with fail
  refine (wakes_true).mono ?_
  rintro x w10 ⟨rfl, hX⟩
  have HJ10 := Lib.hid (HJ9.out.below hX)
  clear hX HJ9
  go_wp2_with fail
  go_ret
  exact ⟨rfl, HJ10.out.b⟩
set_option maxHeartbeats 3200000 in
set_option maxRecDepth 100000 in
theorem pj_long_low {w : World} {S : Nat → Prop} {pl pb pc m : Int} {pv ov : Value} {ps0 es0 : List Ent} (hp : EntsRd w S pv ps0) (ho : EntsRd w S ov es0) (hpf : Fits ps0) (hef : Fits es0) (hm : 0 ≤ m) (hb0 : 0 ≤ pb) (h1 : m ≤ 1099511627776) (hlong : longB (es0.take 64) = true) (hmy : mayB pl pb pc (ps0.take 64) = true) (hlo : pb + (ps0.take 64).length < m) :
    Calls Try.prog 3 #[.agg #[.int .u64 pl, .int .u64 pb, .int .u64 pc, pv], .int .u64 m, ov] w fun x w' => x = .returned (.bool true) ∧ Below w.heap.size w w' := by
  obtain ⟨cs, hr, -⟩ := id hp
  obtain ⟨q, d, rfl⟩ := Rd.slice hr
  obtain ⟨cs2, hr2, -⟩ := id ho
  obtain ⟨q2, d2, rfl⟩ := Rd.slice hr2
  have hpn := Rd.le hr
  have hen := Rd.le hr2
  have hdl : ps0.length ≤ d := by obtain ⟨_, _, _, h, h1, _⟩ := hr; injection h with _ _ h; omega
  have hdl2 : es0.length ≤ d2 := by obtain ⟨_, _, _, h, h1, _⟩ := hr2; injection h with _ _ h; omega
  unfold maxLen at hpn hen
  have M1 := Lib.hid (min64 ps0.length ps0 rfl)
  have M2 := Lib.hid (min64 es0.length es0 rfl)
  have hl1 : (ps0.take 64).length ≤ 64 ∧ (ps0.take 64).length ≤ ps0.length := by rw [List.length_take]; omega
  have hl2 : (es0.take 64).length ≤ 64 ∧ (es0.take 64).length ≤ es0.length := by rw [List.length_take]; omega
  have P1 := EntsRd.front hp (k := (ps0.take 64).length) hl1.2
  have P2 := EntsRd.front ho (k := (es0.take 64).length) hl2.2
  rw [show ps0.take (ps0.take 64).length = ps0.take 64 from by rw [List.length_take, ← List.take_take, List.take_length]] at P1
  rw [show es0.take (es0.take 64).length = es0.take 64 from by rw [List.length_take, ← List.take_take, List.take_length]] at P2
  have F1 := Lib.hid (hpf.take 64)
  have F2 := Lib.hid (hef.take 64)
  have hpd : (ps0.take 64).length ≤ d := by omega
  have hed : (es0.take 64).length ≤ d2 := by omega
  generalize ps0.take 64 = ps at *
  generalize es0.take 64 = es at *
  have HP := Lib.hid P1
  have HO := Lib.hid P2
  clear P1 P2 hp ho hr hr2 hpf hef cs cs2
  have Hmy := Lib.hid hmy
  clear hmy
  have hlong := Lib.hid hlong
  go_enter Try.func3, Try.ntmps3
  go_wp2_with fail
  have K1 := Blk.new w 25 #[.int .u64 pl, .int .u64 pb, .int .u64 pc, .slice q ps0.length d]
  obtain ⟨m0, m1, m2, m3, f0, f1, f2, f3, hz⟩ := K1.c4
  have hS : Hold0 (w.alloc (.cells #[.int .u64 pl, .int .u64 pb, .int .u64 pc, .slice q ps0.length d] 25)).drew := trivial
  have hT : noLate [13] (Array.replicate 15 false) = true → Hold1 (w.heap.size, 3, .slice q ps0.length d) (w.alloc (.cells #[.int .u64 pl, .int .u64 pb, .int .u64 pc, .slice q ps0.length d] 25)).drew := fun _ => m3
  refine begin_D [13] (by kernel_rfl) hS hT ?_
  replace hT := hT rfl
  refine take_S (v := ?v0p) 0 rfl (by kernel_rfl) (by kernel_rfl) (by kernel_rfl) (by kernel_rfl) (fun _ _ _ h => h) hS (fun _ => hT) rfl (fun w' hq => ?h0p) ?_
  case h0p => go_simp; try with_reducible rfl
  try simp only [Act.put, List.setIfInBounds_toArray, List.set_cons_zero, List.set_cons_succ, List.getElem_toArray, List.getElem_cons_succ, List.getElem_cons_zero]
  refine take_T (v := ?v1p) 1 rfl (by kernel_rfl) (by kernel_rfl) (by kernel_rfl) (by kernel_rfl) (by kernel_rfl) (by kernel_rfl) (fun _ _ _ h => h) hS (fun _ => hT) rfl (fun w' hq hr => ?h1p) ?_
  case h1p => change _ = some _ at hr; go_simp; try with_reducible rfl
  try simp only [Act.put, List.setIfInBounds_toArray, List.set_cons_zero, List.set_cons_succ, List.getElem_toArray, List.getElem_cons_succ, List.getElem_cons_zero]
  refine take_S (v := ?v2p) 2 rfl (by kernel_rfl) (by kernel_rfl) (by kernel_rfl) (by kernel_rfl) (fun _ _ _ h => h) hS (fun _ => hT) rfl (fun w' hq => ?h2p) ?_
  case h2p => go_simp; try with_reducible rfl
  try simp only [Act.put, List.setIfInBounds_toArray, List.set_cons_zero, List.set_cons_succ, List.getElem_toArray, List.getElem_cons_succ, List.getElem_cons_zero]
  refine take_T (v := ?v3p) 3 rfl (by kernel_rfl) (by kernel_rfl) (by kernel_rfl) (by kernel_rfl) (by kernel_rfl) (by kernel_rfl) (fun _ _ _ h => h) hS (fun _ => hT) rfl (fun w' hq hr => ?h3p) ?_
  case h3p => change _ = some _ at hr; go_simp; try with_reducible rfl
  try simp only [Act.put, List.setIfInBounds_toArray, List.set_cons_zero, List.set_cons_succ, List.getElem_toArray, List.getElem_cons_succ, List.getElem_cons_zero]
  refine take_S (v := ?v4p) 4 rfl (by kernel_rfl) (by kernel_rfl) (by kernel_rfl) (by kernel_rfl) (fun _ _ _ h => h) hS (fun _ => hT) rfl (fun w' hq => ?h4p) ?_
  case h4p => go_simp; try with_reducible rfl
  try simp only [Act.put, List.setIfInBounds_toArray, List.set_cons_zero, List.set_cons_succ, List.getElem_toArray, List.getElem_cons_succ, List.getElem_cons_zero]
  refine take_S (v := ?v5p) 5 rfl (by kernel_rfl) (by kernel_rfl) (by kernel_rfl) (by kernel_rfl) (fun _ _ _ h => h) hS (fun _ => hT) rfl (fun w' hq => ?h5p) ?_
  case h5p => go_simp; try with_reducible rfl
  try simp only [Act.put, List.setIfInBounds_toArray, List.set_cons_zero, List.set_cons_succ, List.getElem_toArray, List.getElem_cons_succ, List.getElem_cons_zero]
  rw [M1.out]
  refine take_S (v := ?v6p) 6 rfl (by kernel_rfl) (by kernel_rfl) (by kernel_rfl) (by kernel_rfl) (fun _ _ _ h => h) hS (fun _ => hT) rfl (fun w' hq => ?h6p) ?_
  case h6p => go_simp; try with_reducible rfl
  try simp only [Act.put, List.setIfInBounds_toArray, List.set_cons_zero, List.set_cons_succ, List.getElem_toArray, List.getElem_cons_succ, List.getElem_cons_zero]
  refine take_S (v := ?v7p) 7 rfl (by kernel_rfl) (by kernel_rfl) (by kernel_rfl) (by kernel_rfl) (fun _ _ _ h => h) hS (fun _ => hT) rfl (fun w' hq => ?h7p) ?_
  case h7p => go_simp; try with_reducible rfl
  try simp only [Act.put, List.setIfInBounds_toArray, List.set_cons_zero, List.set_cons_succ, List.getElem_toArray, List.getElem_cons_succ, List.getElem_cons_zero]
  refine take_S (v := ?v8p) 8 rfl (by kernel_rfl) (by kernel_rfl) (by kernel_rfl) (by kernel_rfl) (fun _ _ _ h => h) hS (fun _ => hT) rfl (fun w' hq => ?h8p) ?_
  case h8p => go_simp; try with_reducible rfl
  try simp only [Act.put, List.setIfInBounds_toArray, List.set_cons_zero, List.set_cons_succ, List.getElem_toArray, List.getElem_cons_succ, List.getElem_cons_zero]
  refine take_S (v := ?v9p) 9 rfl (by kernel_rfl) (by kernel_rfl) (by kernel_rfl) (by kernel_rfl) (fun _ _ _ h => h) hS (fun _ => hT) rfl (fun w' hq => ?h9p) ?_
  case h9p => go_simp; try with_reducible rfl
  try simp only [Act.put, List.setIfInBounds_toArray, List.set_cons_zero, List.set_cons_succ, List.getElem_toArray, List.getElem_cons_succ, List.getElem_cons_zero]
  refine take_S (v := ?v10p) 10 rfl (by kernel_rfl) (by kernel_rfl) (by kernel_rfl) (by kernel_rfl) (fun _ _ _ h => h) hS (fun _ => hT) rfl (fun w' hq => ?h10p) ?_
  case h10p => go_simp; try with_reducible rfl
  try simp only [Act.put, List.setIfInBounds_toArray, List.set_cons_zero, List.set_cons_succ, List.getElem_toArray, List.getElem_cons_succ, List.getElem_cons_zero]
  rw [M2.out]
  refine take_S (v := ?v11p) 11 rfl (by kernel_rfl) (by kernel_rfl) (by kernel_rfl) (by kernel_rfl) (fun _ _ _ h => h) hS (fun _ => hT) rfl (fun w' hq => ?h11p) ?_
  case h11p => go_simp; try with_reducible rfl
  try simp only [Act.put, List.setIfInBounds_toArray, List.set_cons_zero, List.set_cons_succ, List.getElem_toArray, List.getElem_cons_succ, List.getElem_cons_zero]
  refine take_S (v := ?v12p) 12 rfl (by kernel_rfl) (by kernel_rfl) (by kernel_rfl) (by kernel_rfl) (fun _ _ _ h => h) hS (fun _ => hT) rfl (fun w' hq => ?h12p) ?_
  case h12p => go_simp; try with_reducible rfl
  try simp only [Act.put, List.setIfInBounds_toArray, List.set_cons_zero, List.set_cons_succ, List.getElem_toArray, List.getElem_cons_succ, List.getElem_cons_zero]
  refine one_D 13 rfl (by kernel_rfl) (fun KQ hK => ?_)
  go_simp
  refine hK.out _ _ trivial (fun h => absurd h (by decide)) ?_
  clear hK hS hT
  refine take_S (v := ?v14p) 14 rfl (by kernel_rfl) (by kernel_rfl) (by kernel_rfl) (by kernel_rfl) (fun _ _ _ h => h) trivial (fun h => absurd h (by decide)) rfl (fun w' hq => ?h14p) ?_
  case h14p => go_simp; try with_reducible rfl
  try simp only [Act.put, List.setIfInBounds_toArray, List.set_cons_zero, List.set_cons_succ, List.getElem_toArray, List.getElem_cons_succ, List.getElem_cons_zero]
  refine done_D (by kernel_rfl) ?_ _
  have hpj : PJ w S pl pb pc (.slice q ps.length d) (.slice q2 es.length d2) ps es (w.alloc (.cells #[.int .u64 pl, .int .u64 pb, .int .u64 pc, .slice q ps.length d] 25)).drew :=
    ⟨((Below.refl _ w).alloc (Nat.le_refl _) _).drew, Blk.new w _ _, EntsRd.below HP.out ((Below.refl _ w).alloc (Nat.le_refl _) _).drew, EntsRd.below HO.out ((Below.refl _ w).alloc (Nat.le_refl _) _).drew⟩
  have HJ := Lib.hid hpj
  have hps := hl1.1
  have hes := hl2.1
  clear hpj K1 m0 m1 m2 m3 f0 f1 f2 f3 hz HP HO M1 M2 hl1 hl2 hpn hen hdl hdl2 hpd hed
  go_wp2_with fail
  refine (log_New (m := m) HJ.out.o F2.out hes h1).mono ?_
  rintro x w2 ⟨b, rfl, hN⟩
  have HA2 := Lib.hid (At.new hN HJ.out.b)
  have HJ2 := Lib.hid (HJ.out.below hN.2.2.2)
  have Hok := Lib.hid (show LogOk m es from ⟨F2.out, hes, hm, by omega⟩)
  clear hN HJ
  go_wp2_with fail
  have hmay : mayB 0 m m es = false := by unfold mayB; rw [hlong.out]; simp
  refine (pack_Of_arg HA2.out Hok.out hmay).mono ?_
  rintro x w3 ⟨rfl, hX⟩
  have HA3 := Lib.hid (HA2.out.below hX)
  have HJ3 := Lib.hid (HJ2.out.below hX)
  clear hX HA2 HJ2 hmay
  unfold packVal
  obtain ⟨m0, m1, m2, m3, -, -, -, -, hz⟩ := (HJ3.out.k.alloc (.cells #[.int .u64 0, .int .u64 0, .int .u64 0, .slice none 0 0] 31)).c4
  go_wp2_with fail
  have HA := Lib.hid (HA3.out.below ((Below.refl _ w3).alloc (Nat.le_refl _) (.cells #[.int .u64 0, .int .u64 0, .int .u64 0, .slice none 0 0] 31)))
  have HJ := Lib.hid (HJ3.out.below ((Below.refl _ w3).alloc (Nat.le_refl _) (.cells #[.int .u64 0, .int .u64 0, .int .u64 0, .slice none 0 0] 31)))
  clear HA3 HJ3
  have K15 : Blk ((w3.alloc (.cells #[.int .u64 0, .int .u64 0, .int .u64 0, .slice none 0 0] 31)).alloc (.cells #[.int .u64 pl, .int .u64 pb, .int .u64 pc, .slice q ps.length d] 31)) (w3.heap.size + 1) 31 #[.int .u64 pl, .int .u64 pb, .int .u64 pc, .slice q ps.length d] := by
    have h := Blk.new (w3.alloc (.cells #[.int .u64 0, .int .u64 0, .int .u64 0, .slice none 0 0] 31)) 31 #[.int .u64 pl, .int .u64 pb, .int .u64 pc, .slice q ps.length d]
    rw [World.size_alloc] at h
    exact h
  have hb15 := (Below.refl _ (w3.alloc (.cells #[.int .u64 0, .int .u64 0, .int .u64 0, .slice none 0 0] 31))).alloc (Nat.le_refl _) (.cells #[.int .u64 pl, .int .u64 pb, .int .u64 pc, .slice q ps.length d] 31)
  have HA7 := Lib.hid (HA.out.below hb15)
  have HJ7 := Lib.hid (HJ.out.below hb15)
  have KP7 := Lib.hid K15
  clear HA HJ hb15 K15
  clear m0 m1 m2 m3 hz
  have hparts := may_parts Hmy.out
  refine (pack_Join_low HA7.out Hok.out HJ7.out.p Hmy.out hb0 hparts.2.1 hps hlo).mono ?_
  rintro x w8 ⟨rfl, hX⟩
  have HJ8 := Lib.hid (HJ7.out.below hX)
  have KP8 := Lib.hid (Blk.below KP7.out hX)
  clear hX HJ7 HA7 KP7
  obtain ⟨m0, m1, m2, m3, -, -, -, -, hz⟩ := KP8.out.c4
  go_wp2_with fail
  refine (pack_May HJ8.out.p (by omega) hb0).mono ?_
  rintro x w9 ⟨rfl, hX⟩
  rw [Hmy.out]
  have HJ9 := Lib.hid (HJ8.out.below hX)
  have KP9 := Lib.hid (Blk.below KP8.out hX)
  clear hX HJ8 KP8 m0 m1 m2 m3 hz
  obtain ⟨m0, m1, m2, m3, -, -, -, -, hz⟩ := KP9.out.c4
  go_wp2_with fail
  refine (pack_Op (by omega)).mono ?_
  rintro x w10 ⟨rfl, hX⟩
  rw [IntWalk.u64_in (pb + (ps.length : Int)) (by omega)]
  have HJ10 := Lib.hid (HJ9.out.below hX)
  clear hX HJ9 KP9 m0 m1 m2 m3 hz
  have dM : decide (pb + (ps.length : Int) < m) = true := by simp; omega
  go_wp2_with fail
  refine (wakes_true).mono ?_
  rintro x w11 ⟨rfl, hX⟩
  have HJ11 := Lib.hid (HJ10.out.below hX)
  clear hX HJ10
  go_wp2_with fail
  go_ret
  exact ⟨rfl, HJ11.out.b⟩
set_option maxHeartbeats 3200000 in
set_option maxRecDepth 100000 in
theorem pj_short_may {w : World} {S : Nat → Prop} {pl pb pc m : Int} {pv ov : Value} {ps0 es0 : List Ent} (hp : EntsRd w S pv ps0) (ho : EntsRd w S ov es0) (hpf : Fits ps0) (hef : Fits es0) (hm : 0 ≤ m) (hb0 : 0 ≤ pb) (h1 : m ≤ 1099511627776) (hlong : longB (es0.take 64) = false) (hmy : mayB pl pb pc (ps0.take 64) = false) :
    Calls Try.prog 3 #[.agg #[.int .u64 pl, .int .u64 pb, .int .u64 pc, pv], .int .u64 m, ov] w fun x w' => x = .returned (.bool true) ∧ Below w.heap.size w w' := by
  obtain ⟨cs, hr, -⟩ := id hp
  obtain ⟨q, d, rfl⟩ := Rd.slice hr
  obtain ⟨cs2, hr2, -⟩ := id ho
  obtain ⟨q2, d2, rfl⟩ := Rd.slice hr2
  have hpn := Rd.le hr
  have hen := Rd.le hr2
  have hdl : ps0.length ≤ d := by obtain ⟨_, _, _, h, h1, _⟩ := hr; injection h with _ _ h; omega
  have hdl2 : es0.length ≤ d2 := by obtain ⟨_, _, _, h, h1, _⟩ := hr2; injection h with _ _ h; omega
  unfold maxLen at hpn hen
  have M1 := Lib.hid (min64 ps0.length ps0 rfl)
  have M2 := Lib.hid (min64 es0.length es0 rfl)
  have hl1 : (ps0.take 64).length ≤ 64 ∧ (ps0.take 64).length ≤ ps0.length := by rw [List.length_take]; omega
  have hl2 : (es0.take 64).length ≤ 64 ∧ (es0.take 64).length ≤ es0.length := by rw [List.length_take]; omega
  have P1 := EntsRd.front hp (k := (ps0.take 64).length) hl1.2
  have P2 := EntsRd.front ho (k := (es0.take 64).length) hl2.2
  rw [show ps0.take (ps0.take 64).length = ps0.take 64 from by rw [List.length_take, ← List.take_take, List.take_length]] at P1
  rw [show es0.take (es0.take 64).length = es0.take 64 from by rw [List.length_take, ← List.take_take, List.take_length]] at P2
  have F1 := Lib.hid (hpf.take 64)
  have F2 := Lib.hid (hef.take 64)
  have hpd : (ps0.take 64).length ≤ d := by omega
  have hed : (es0.take 64).length ≤ d2 := by omega
  generalize ps0.take 64 = ps at *
  generalize es0.take 64 = es at *
  have HP := Lib.hid P1
  have HO := Lib.hid P2
  clear P1 P2 hp ho hr hr2 hpf hef cs cs2
  have Hmy := Lib.hid hmy
  clear hmy
  have hlong := Lib.hid hlong
  go_enter Try.func3, Try.ntmps3
  go_wp2_with fail
  have K1 := Blk.new w 25 #[.int .u64 pl, .int .u64 pb, .int .u64 pc, .slice q ps0.length d]
  obtain ⟨m0, m1, m2, m3, f0, f1, f2, f3, hz⟩ := K1.c4
  have hS : Hold0 (w.alloc (.cells #[.int .u64 pl, .int .u64 pb, .int .u64 pc, .slice q ps0.length d] 25)).drew := trivial
  have hT : noLate [13] (Array.replicate 15 false) = true → Hold1 (w.heap.size, 3, .slice q ps0.length d) (w.alloc (.cells #[.int .u64 pl, .int .u64 pb, .int .u64 pc, .slice q ps0.length d] 25)).drew := fun _ => m3
  refine begin_D [13] (by kernel_rfl) hS hT ?_
  replace hT := hT rfl
  refine take_S (v := ?v0p) 0 rfl (by kernel_rfl) (by kernel_rfl) (by kernel_rfl) (by kernel_rfl) (fun _ _ _ h => h) hS (fun _ => hT) rfl (fun w' hq => ?h0p) ?_
  case h0p => go_simp; try with_reducible rfl
  try simp only [Act.put, List.setIfInBounds_toArray, List.set_cons_zero, List.set_cons_succ, List.getElem_toArray, List.getElem_cons_succ, List.getElem_cons_zero]
  refine take_T (v := ?v1p) 1 rfl (by kernel_rfl) (by kernel_rfl) (by kernel_rfl) (by kernel_rfl) (by kernel_rfl) (by kernel_rfl) (fun _ _ _ h => h) hS (fun _ => hT) rfl (fun w' hq hr => ?h1p) ?_
  case h1p => change _ = some _ at hr; go_simp; try with_reducible rfl
  try simp only [Act.put, List.setIfInBounds_toArray, List.set_cons_zero, List.set_cons_succ, List.getElem_toArray, List.getElem_cons_succ, List.getElem_cons_zero]
  refine take_S (v := ?v2p) 2 rfl (by kernel_rfl) (by kernel_rfl) (by kernel_rfl) (by kernel_rfl) (fun _ _ _ h => h) hS (fun _ => hT) rfl (fun w' hq => ?h2p) ?_
  case h2p => go_simp; try with_reducible rfl
  try simp only [Act.put, List.setIfInBounds_toArray, List.set_cons_zero, List.set_cons_succ, List.getElem_toArray, List.getElem_cons_succ, List.getElem_cons_zero]
  refine take_T (v := ?v3p) 3 rfl (by kernel_rfl) (by kernel_rfl) (by kernel_rfl) (by kernel_rfl) (by kernel_rfl) (by kernel_rfl) (fun _ _ _ h => h) hS (fun _ => hT) rfl (fun w' hq hr => ?h3p) ?_
  case h3p => change _ = some _ at hr; go_simp; try with_reducible rfl
  try simp only [Act.put, List.setIfInBounds_toArray, List.set_cons_zero, List.set_cons_succ, List.getElem_toArray, List.getElem_cons_succ, List.getElem_cons_zero]
  refine take_S (v := ?v4p) 4 rfl (by kernel_rfl) (by kernel_rfl) (by kernel_rfl) (by kernel_rfl) (fun _ _ _ h => h) hS (fun _ => hT) rfl (fun w' hq => ?h4p) ?_
  case h4p => go_simp; try with_reducible rfl
  try simp only [Act.put, List.setIfInBounds_toArray, List.set_cons_zero, List.set_cons_succ, List.getElem_toArray, List.getElem_cons_succ, List.getElem_cons_zero]
  refine take_S (v := ?v5p) 5 rfl (by kernel_rfl) (by kernel_rfl) (by kernel_rfl) (by kernel_rfl) (fun _ _ _ h => h) hS (fun _ => hT) rfl (fun w' hq => ?h5p) ?_
  case h5p => go_simp; try with_reducible rfl
  try simp only [Act.put, List.setIfInBounds_toArray, List.set_cons_zero, List.set_cons_succ, List.getElem_toArray, List.getElem_cons_succ, List.getElem_cons_zero]
  rw [M1.out]
  refine take_S (v := ?v6p) 6 rfl (by kernel_rfl) (by kernel_rfl) (by kernel_rfl) (by kernel_rfl) (fun _ _ _ h => h) hS (fun _ => hT) rfl (fun w' hq => ?h6p) ?_
  case h6p => go_simp; try with_reducible rfl
  try simp only [Act.put, List.setIfInBounds_toArray, List.set_cons_zero, List.set_cons_succ, List.getElem_toArray, List.getElem_cons_succ, List.getElem_cons_zero]
  refine take_S (v := ?v7p) 7 rfl (by kernel_rfl) (by kernel_rfl) (by kernel_rfl) (by kernel_rfl) (fun _ _ _ h => h) hS (fun _ => hT) rfl (fun w' hq => ?h7p) ?_
  case h7p => go_simp; try with_reducible rfl
  try simp only [Act.put, List.setIfInBounds_toArray, List.set_cons_zero, List.set_cons_succ, List.getElem_toArray, List.getElem_cons_succ, List.getElem_cons_zero]
  refine take_S (v := ?v8p) 8 rfl (by kernel_rfl) (by kernel_rfl) (by kernel_rfl) (by kernel_rfl) (fun _ _ _ h => h) hS (fun _ => hT) rfl (fun w' hq => ?h8p) ?_
  case h8p => go_simp; try with_reducible rfl
  try simp only [Act.put, List.setIfInBounds_toArray, List.set_cons_zero, List.set_cons_succ, List.getElem_toArray, List.getElem_cons_succ, List.getElem_cons_zero]
  refine take_S (v := ?v9p) 9 rfl (by kernel_rfl) (by kernel_rfl) (by kernel_rfl) (by kernel_rfl) (fun _ _ _ h => h) hS (fun _ => hT) rfl (fun w' hq => ?h9p) ?_
  case h9p => go_simp; try with_reducible rfl
  try simp only [Act.put, List.setIfInBounds_toArray, List.set_cons_zero, List.set_cons_succ, List.getElem_toArray, List.getElem_cons_succ, List.getElem_cons_zero]
  refine take_S (v := ?v10p) 10 rfl (by kernel_rfl) (by kernel_rfl) (by kernel_rfl) (by kernel_rfl) (fun _ _ _ h => h) hS (fun _ => hT) rfl (fun w' hq => ?h10p) ?_
  case h10p => go_simp; try with_reducible rfl
  try simp only [Act.put, List.setIfInBounds_toArray, List.set_cons_zero, List.set_cons_succ, List.getElem_toArray, List.getElem_cons_succ, List.getElem_cons_zero]
  rw [M2.out]
  refine take_S (v := ?v11p) 11 rfl (by kernel_rfl) (by kernel_rfl) (by kernel_rfl) (by kernel_rfl) (fun _ _ _ h => h) hS (fun _ => hT) rfl (fun w' hq => ?h11p) ?_
  case h11p => go_simp; try with_reducible rfl
  try simp only [Act.put, List.setIfInBounds_toArray, List.set_cons_zero, List.set_cons_succ, List.getElem_toArray, List.getElem_cons_succ, List.getElem_cons_zero]
  refine take_S (v := ?v12p) 12 rfl (by kernel_rfl) (by kernel_rfl) (by kernel_rfl) (by kernel_rfl) (fun _ _ _ h => h) hS (fun _ => hT) rfl (fun w' hq => ?h12p) ?_
  case h12p => go_simp; try with_reducible rfl
  try simp only [Act.put, List.setIfInBounds_toArray, List.set_cons_zero, List.set_cons_succ, List.getElem_toArray, List.getElem_cons_succ, List.getElem_cons_zero]
  refine one_D 13 rfl (by kernel_rfl) (fun KQ hK => ?_)
  go_simp
  refine hK.out _ _ trivial (fun h => absurd h (by decide)) ?_
  clear hK hS hT
  refine take_S (v := ?v14p) 14 rfl (by kernel_rfl) (by kernel_rfl) (by kernel_rfl) (by kernel_rfl) (fun _ _ _ h => h) trivial (fun h => absurd h (by decide)) rfl (fun w' hq => ?h14p) ?_
  case h14p => go_simp; try with_reducible rfl
  try simp only [Act.put, List.setIfInBounds_toArray, List.set_cons_zero, List.set_cons_succ, List.getElem_toArray, List.getElem_cons_succ, List.getElem_cons_zero]
  refine done_D (by kernel_rfl) ?_ _
  have hpj : PJ w S pl pb pc (.slice q ps.length d) (.slice q2 es.length d2) ps es (w.alloc (.cells #[.int .u64 pl, .int .u64 pb, .int .u64 pc, .slice q ps.length d] 25)).drew :=
    ⟨((Below.refl _ w).alloc (Nat.le_refl _) _).drew, Blk.new w _ _, EntsRd.below HP.out ((Below.refl _ w).alloc (Nat.le_refl _) _).drew, EntsRd.below HO.out ((Below.refl _ w).alloc (Nat.le_refl _) _).drew⟩
  have HJ := Lib.hid hpj
  have hps := hl1.1
  have hes := hl2.1
  clear hpj K1 m0 m1 m2 m3 f0 f1 f2 f3 hz HP HO M1 M2 hl1 hl2 hpn hen hdl hdl2 hpd hed
  go_wp2_with fail
  refine (log_New (m := m) HJ.out.o F2.out hes h1).mono ?_
  rintro x w2 ⟨b, rfl, hN⟩
  have HA2 := Lib.hid (At.new hN HJ.out.b)
  have HJ2 := Lib.hid (HJ.out.below hN.2.2.2)
  have Hok := Lib.hid (show LogOk m es from ⟨F2.out, hes, hm, by omega⟩)
  clear hN HJ
  go_wp2_with fail
  have hmay : mayB 0 m m es = true := by unfold mayB; rw [hlong.out]; simp; omega
  have Hmay := Lib.hid hmay
  refine (pack_Of HA2.out Hok.out hmay).mono ?_
  rintro x w3 ⟨p3, c3, rfl, ho3, hX⟩
  have HA3 := Lib.hid (HA2.out.below hX)
  have HJ3 := Lib.hid (HJ2.out.below hX)
  have HO3 := Lib.hid (EntsOwn.rd ho3)
  clear hX HA2 HJ2 ho3 hmay
  unfold packVal
  have K3 := Blk.new w3 31 #[.int .u64 0, .int .u64 m, .int .u64 m, .slice p3 es.length c3]
  have hb3 := (Below.refl _ w3).alloc (Nat.le_refl _) (.cells #[.int .u64 0, .int .u64 m, .int .u64 m, .slice p3 es.length c3] 31)
  obtain ⟨m0, m1, m2, m3, -, -, -, -, hz⟩ := K3.c4
  go_wp2_with fail
  have HA4 := Lib.hid (HA3.out.below hb3)
  have HJ4 := Lib.hid (HJ3.out.below hb3)
  have HO4 := Lib.hid (EntsRd.below HO3.out hb3)
  clear HA3 HJ3 HO3 K3 hb3 m0 m1 m2 m3 hz
  refine (pack_Join (M := m) (K := 0) HA4.out Hok.out HO4.out F2.out Hmay.out hm (by omega) (Int.le_refl _) (.inl rfl) (Nat.zero_le _) h1 hes).mono ?_
  rintro x w4 ⟨b4, rfl, hAt, -, hX⟩
  rw [List.drop_zero] at hAt
  have HS5 := Lib.hid hAt
  have HA5 := Lib.hid (HA4.out.below hX)
  have HJ5 := Lib.hid (HJ4.out.below hX)
  clear hAt hX HA4 HJ4 HO4
  go_wp2_with fail
  refine (At_From' HS5.out Hok.out rfl).mono ?_
  rintro x w5 ⟨p5, c5, rfl, ho5, hX⟩
  have HO6 := Lib.hid (EntsOwn.rd ho5)
  have HS6 := Lib.hid (HS5.out.below hX)
  have HA6 := Lib.hid (HA5.out.below hX)
  have HJ6 := Lib.hid (HJ5.out.below hX)
  clear hX ho5 HS5 HA5 HJ5
  go_wp2_with fail
  refine (At_Base HS6.out).mono ?_
  rintro x w6 ⟨rfl, rfl⟩
  go_wp2_with fail
  refine (ref_All HO6.out HJ6.out.o (by omega)).mono ?_
  rintro x w6 ⟨rfl, hX⟩
  have HA := Lib.hid (HA6.out.below hX)
  have HJ := Lib.hid (HJ6.out.below hX)
  clear hX HO6 HS6 HA6 HJ6 Hmay
  obtain ⟨m0, m1, m2, m3, -, -, -, -, hz⟩ := HJ.out.k.c4
  go_wp2_with fail
  clear m0 m1 m2 m3 hz
  have K15 : Blk (w6.alloc (.cells #[.int .u64 pl, .int .u64 pb, .int .u64 pc, .slice q ps.length d] 31)) w6.heap.size 31 #[.int .u64 pl, .int .u64 pb, .int .u64 pc, .slice q ps.length d] := Blk.new _ _ _
  have hb15 := (Below.refl _ w6).alloc (Nat.le_refl _) (.cells #[.int .u64 pl, .int .u64 pb, .int .u64 pc, .slice q ps.length d] 31)
  have HA7 := Lib.hid (HA.out.below hb15)
  have HJ7 := Lib.hid (HJ.out.below hb15)
  have KP7 := Lib.hid K15
  clear HA HJ hb15 K15
  refine (pack_Join_may HA7.out Hok.out HJ7.out.p Hmy.out hb0 hps).mono ?_
  rintro x w8 ⟨rfl, hX⟩
  have HJ8 := Lib.hid (HJ7.out.below hX)
  have KP8 := Lib.hid (Blk.below KP7.out hX)
  clear hX HJ7 HA7 KP7
  obtain ⟨m0, m1, m2, m3, -, -, -, -, hz⟩ := KP8.out.c4
  go_wp2_with fail
  refine (pack_May HJ8.out.p (by omega) hb0).mono ?_
  rintro x w9 ⟨rfl, hX⟩
  rw [Hmy.out]
  have HJ9 := Lib.hid (HJ8.out.below hX)
  clear hX HJ8 KP8 m0 m1 m2 m3 hz
  go_wp2_with fail
  refine (wakes_true).mono ?_
  rintro x w10 ⟨rfl, hX⟩
  have HJ10 := Lib.hid (HJ9.out.below hX)
  clear hX HJ9
  go_wp2_with fail
  go_ret
  exact ⟨rfl, HJ10.out.b⟩
set_option maxHeartbeats 3200000 in
set_option maxRecDepth 100000 in
theorem pj_short_low {w : World} {S : Nat → Prop} {pl pb pc m : Int} {pv ov : Value} {ps0 es0 : List Ent} (hp : EntsRd w S pv ps0) (ho : EntsRd w S ov es0) (hpf : Fits ps0) (hef : Fits es0) (hm : 0 ≤ m) (hb0 : 0 ≤ pb) (h1 : m ≤ 1099511627776) (hlong : longB (es0.take 64) = false) (hmy : mayB pl pb pc (ps0.take 64) = true) (hlo : pb + (ps0.take 64).length < m) :
    Calls Try.prog 3 #[.agg #[.int .u64 pl, .int .u64 pb, .int .u64 pc, pv], .int .u64 m, ov] w fun x w' => x = .returned (.bool true) ∧ Below w.heap.size w w' := by
  obtain ⟨cs, hr, -⟩ := id hp
  obtain ⟨q, d, rfl⟩ := Rd.slice hr
  obtain ⟨cs2, hr2, -⟩ := id ho
  obtain ⟨q2, d2, rfl⟩ := Rd.slice hr2
  have hpn := Rd.le hr
  have hen := Rd.le hr2
  have hdl : ps0.length ≤ d := by obtain ⟨_, _, _, h, h1, _⟩ := hr; injection h with _ _ h; omega
  have hdl2 : es0.length ≤ d2 := by obtain ⟨_, _, _, h, h1, _⟩ := hr2; injection h with _ _ h; omega
  unfold maxLen at hpn hen
  have M1 := Lib.hid (min64 ps0.length ps0 rfl)
  have M2 := Lib.hid (min64 es0.length es0 rfl)
  have hl1 : (ps0.take 64).length ≤ 64 ∧ (ps0.take 64).length ≤ ps0.length := by rw [List.length_take]; omega
  have hl2 : (es0.take 64).length ≤ 64 ∧ (es0.take 64).length ≤ es0.length := by rw [List.length_take]; omega
  have P1 := EntsRd.front hp (k := (ps0.take 64).length) hl1.2
  have P2 := EntsRd.front ho (k := (es0.take 64).length) hl2.2
  rw [show ps0.take (ps0.take 64).length = ps0.take 64 from by rw [List.length_take, ← List.take_take, List.take_length]] at P1
  rw [show es0.take (es0.take 64).length = es0.take 64 from by rw [List.length_take, ← List.take_take, List.take_length]] at P2
  have F1 := Lib.hid (hpf.take 64)
  have F2 := Lib.hid (hef.take 64)
  have hpd : (ps0.take 64).length ≤ d := by omega
  have hed : (es0.take 64).length ≤ d2 := by omega
  generalize ps0.take 64 = ps at *
  generalize es0.take 64 = es at *
  have HP := Lib.hid P1
  have HO := Lib.hid P2
  clear P1 P2 hp ho hr hr2 hpf hef cs cs2
  have Hmy := Lib.hid hmy
  clear hmy
  have hlong := Lib.hid hlong
  go_enter Try.func3, Try.ntmps3
  go_wp2_with fail
  have K1 := Blk.new w 25 #[.int .u64 pl, .int .u64 pb, .int .u64 pc, .slice q ps0.length d]
  obtain ⟨m0, m1, m2, m3, f0, f1, f2, f3, hz⟩ := K1.c4
  have hS : Hold0 (w.alloc (.cells #[.int .u64 pl, .int .u64 pb, .int .u64 pc, .slice q ps0.length d] 25)).drew := trivial
  have hT : noLate [13] (Array.replicate 15 false) = true → Hold1 (w.heap.size, 3, .slice q ps0.length d) (w.alloc (.cells #[.int .u64 pl, .int .u64 pb, .int .u64 pc, .slice q ps0.length d] 25)).drew := fun _ => m3
  refine begin_D [13] (by kernel_rfl) hS hT ?_
  replace hT := hT rfl
  refine take_S (v := ?v0p) 0 rfl (by kernel_rfl) (by kernel_rfl) (by kernel_rfl) (by kernel_rfl) (fun _ _ _ h => h) hS (fun _ => hT) rfl (fun w' hq => ?h0p) ?_
  case h0p => go_simp; try with_reducible rfl
  try simp only [Act.put, List.setIfInBounds_toArray, List.set_cons_zero, List.set_cons_succ, List.getElem_toArray, List.getElem_cons_succ, List.getElem_cons_zero]
  refine take_T (v := ?v1p) 1 rfl (by kernel_rfl) (by kernel_rfl) (by kernel_rfl) (by kernel_rfl) (by kernel_rfl) (by kernel_rfl) (fun _ _ _ h => h) hS (fun _ => hT) rfl (fun w' hq hr => ?h1p) ?_
  case h1p => change _ = some _ at hr; go_simp; try with_reducible rfl
  try simp only [Act.put, List.setIfInBounds_toArray, List.set_cons_zero, List.set_cons_succ, List.getElem_toArray, List.getElem_cons_succ, List.getElem_cons_zero]
  refine take_S (v := ?v2p) 2 rfl (by kernel_rfl) (by kernel_rfl) (by kernel_rfl) (by kernel_rfl) (fun _ _ _ h => h) hS (fun _ => hT) rfl (fun w' hq => ?h2p) ?_
  case h2p => go_simp; try with_reducible rfl
  try simp only [Act.put, List.setIfInBounds_toArray, List.set_cons_zero, List.set_cons_succ, List.getElem_toArray, List.getElem_cons_succ, List.getElem_cons_zero]
  refine take_T (v := ?v3p) 3 rfl (by kernel_rfl) (by kernel_rfl) (by kernel_rfl) (by kernel_rfl) (by kernel_rfl) (by kernel_rfl) (fun _ _ _ h => h) hS (fun _ => hT) rfl (fun w' hq hr => ?h3p) ?_
  case h3p => change _ = some _ at hr; go_simp; try with_reducible rfl
  try simp only [Act.put, List.setIfInBounds_toArray, List.set_cons_zero, List.set_cons_succ, List.getElem_toArray, List.getElem_cons_succ, List.getElem_cons_zero]
  refine take_S (v := ?v4p) 4 rfl (by kernel_rfl) (by kernel_rfl) (by kernel_rfl) (by kernel_rfl) (fun _ _ _ h => h) hS (fun _ => hT) rfl (fun w' hq => ?h4p) ?_
  case h4p => go_simp; try with_reducible rfl
  try simp only [Act.put, List.setIfInBounds_toArray, List.set_cons_zero, List.set_cons_succ, List.getElem_toArray, List.getElem_cons_succ, List.getElem_cons_zero]
  refine take_S (v := ?v5p) 5 rfl (by kernel_rfl) (by kernel_rfl) (by kernel_rfl) (by kernel_rfl) (fun _ _ _ h => h) hS (fun _ => hT) rfl (fun w' hq => ?h5p) ?_
  case h5p => go_simp; try with_reducible rfl
  try simp only [Act.put, List.setIfInBounds_toArray, List.set_cons_zero, List.set_cons_succ, List.getElem_toArray, List.getElem_cons_succ, List.getElem_cons_zero]
  rw [M1.out]
  refine take_S (v := ?v6p) 6 rfl (by kernel_rfl) (by kernel_rfl) (by kernel_rfl) (by kernel_rfl) (fun _ _ _ h => h) hS (fun _ => hT) rfl (fun w' hq => ?h6p) ?_
  case h6p => go_simp; try with_reducible rfl
  try simp only [Act.put, List.setIfInBounds_toArray, List.set_cons_zero, List.set_cons_succ, List.getElem_toArray, List.getElem_cons_succ, List.getElem_cons_zero]
  refine take_S (v := ?v7p) 7 rfl (by kernel_rfl) (by kernel_rfl) (by kernel_rfl) (by kernel_rfl) (fun _ _ _ h => h) hS (fun _ => hT) rfl (fun w' hq => ?h7p) ?_
  case h7p => go_simp; try with_reducible rfl
  try simp only [Act.put, List.setIfInBounds_toArray, List.set_cons_zero, List.set_cons_succ, List.getElem_toArray, List.getElem_cons_succ, List.getElem_cons_zero]
  refine take_S (v := ?v8p) 8 rfl (by kernel_rfl) (by kernel_rfl) (by kernel_rfl) (by kernel_rfl) (fun _ _ _ h => h) hS (fun _ => hT) rfl (fun w' hq => ?h8p) ?_
  case h8p => go_simp; try with_reducible rfl
  try simp only [Act.put, List.setIfInBounds_toArray, List.set_cons_zero, List.set_cons_succ, List.getElem_toArray, List.getElem_cons_succ, List.getElem_cons_zero]
  refine take_S (v := ?v9p) 9 rfl (by kernel_rfl) (by kernel_rfl) (by kernel_rfl) (by kernel_rfl) (fun _ _ _ h => h) hS (fun _ => hT) rfl (fun w' hq => ?h9p) ?_
  case h9p => go_simp; try with_reducible rfl
  try simp only [Act.put, List.setIfInBounds_toArray, List.set_cons_zero, List.set_cons_succ, List.getElem_toArray, List.getElem_cons_succ, List.getElem_cons_zero]
  refine take_S (v := ?v10p) 10 rfl (by kernel_rfl) (by kernel_rfl) (by kernel_rfl) (by kernel_rfl) (fun _ _ _ h => h) hS (fun _ => hT) rfl (fun w' hq => ?h10p) ?_
  case h10p => go_simp; try with_reducible rfl
  try simp only [Act.put, List.setIfInBounds_toArray, List.set_cons_zero, List.set_cons_succ, List.getElem_toArray, List.getElem_cons_succ, List.getElem_cons_zero]
  rw [M2.out]
  refine take_S (v := ?v11p) 11 rfl (by kernel_rfl) (by kernel_rfl) (by kernel_rfl) (by kernel_rfl) (fun _ _ _ h => h) hS (fun _ => hT) rfl (fun w' hq => ?h11p) ?_
  case h11p => go_simp; try with_reducible rfl
  try simp only [Act.put, List.setIfInBounds_toArray, List.set_cons_zero, List.set_cons_succ, List.getElem_toArray, List.getElem_cons_succ, List.getElem_cons_zero]
  refine take_S (v := ?v12p) 12 rfl (by kernel_rfl) (by kernel_rfl) (by kernel_rfl) (by kernel_rfl) (fun _ _ _ h => h) hS (fun _ => hT) rfl (fun w' hq => ?h12p) ?_
  case h12p => go_simp; try with_reducible rfl
  try simp only [Act.put, List.setIfInBounds_toArray, List.set_cons_zero, List.set_cons_succ, List.getElem_toArray, List.getElem_cons_succ, List.getElem_cons_zero]
  refine one_D 13 rfl (by kernel_rfl) (fun KQ hK => ?_)
  go_simp
  refine hK.out _ _ trivial (fun h => absurd h (by decide)) ?_
  clear hK hS hT
  refine take_S (v := ?v14p) 14 rfl (by kernel_rfl) (by kernel_rfl) (by kernel_rfl) (by kernel_rfl) (fun _ _ _ h => h) trivial (fun h => absurd h (by decide)) rfl (fun w' hq => ?h14p) ?_
  case h14p => go_simp; try with_reducible rfl
  try simp only [Act.put, List.setIfInBounds_toArray, List.set_cons_zero, List.set_cons_succ, List.getElem_toArray, List.getElem_cons_succ, List.getElem_cons_zero]
  refine done_D (by kernel_rfl) ?_ _
  have hpj : PJ w S pl pb pc (.slice q ps.length d) (.slice q2 es.length d2) ps es (w.alloc (.cells #[.int .u64 pl, .int .u64 pb, .int .u64 pc, .slice q ps.length d] 25)).drew :=
    ⟨((Below.refl _ w).alloc (Nat.le_refl _) _).drew, Blk.new w _ _, EntsRd.below HP.out ((Below.refl _ w).alloc (Nat.le_refl _) _).drew, EntsRd.below HO.out ((Below.refl _ w).alloc (Nat.le_refl _) _).drew⟩
  have HJ := Lib.hid hpj
  have hps := hl1.1
  have hes := hl2.1
  clear hpj K1 m0 m1 m2 m3 f0 f1 f2 f3 hz HP HO M1 M2 hl1 hl2 hpn hen hdl hdl2 hpd hed
  go_wp2_with fail
  refine (log_New (m := m) HJ.out.o F2.out hes h1).mono ?_
  rintro x w2 ⟨b, rfl, hN⟩
  have HA2 := Lib.hid (At.new hN HJ.out.b)
  have HJ2 := Lib.hid (HJ.out.below hN.2.2.2)
  have Hok := Lib.hid (show LogOk m es from ⟨F2.out, hes, hm, by omega⟩)
  clear hN HJ
  go_wp2_with fail
  have hmay : mayB 0 m m es = true := by unfold mayB; rw [hlong.out]; simp; omega
  have Hmay := Lib.hid hmay
  refine (pack_Of HA2.out Hok.out hmay).mono ?_
  rintro x w3 ⟨p3, c3, rfl, ho3, hX⟩
  have HA3 := Lib.hid (HA2.out.below hX)
  have HJ3 := Lib.hid (HJ2.out.below hX)
  have HO3 := Lib.hid (EntsOwn.rd ho3)
  clear hX HA2 HJ2 ho3 hmay
  unfold packVal
  have K3 := Blk.new w3 31 #[.int .u64 0, .int .u64 m, .int .u64 m, .slice p3 es.length c3]
  have hb3 := (Below.refl _ w3).alloc (Nat.le_refl _) (.cells #[.int .u64 0, .int .u64 m, .int .u64 m, .slice p3 es.length c3] 31)
  obtain ⟨m0, m1, m2, m3, -, -, -, -, hz⟩ := K3.c4
  go_wp2_with fail
  have HA4 := Lib.hid (HA3.out.below hb3)
  have HJ4 := Lib.hid (HJ3.out.below hb3)
  have HO4 := Lib.hid (EntsRd.below HO3.out hb3)
  clear HA3 HJ3 HO3 K3 hb3 m0 m1 m2 m3 hz
  refine (pack_Join (M := m) (K := 0) HA4.out Hok.out HO4.out F2.out Hmay.out hm (by omega) (Int.le_refl _) (.inl rfl) (Nat.zero_le _) h1 hes).mono ?_
  rintro x w4 ⟨b4, rfl, hAt, -, hX⟩
  rw [List.drop_zero] at hAt
  have HS5 := Lib.hid hAt
  have HA5 := Lib.hid (HA4.out.below hX)
  have HJ5 := Lib.hid (HJ4.out.below hX)
  clear hAt hX HA4 HJ4 HO4
  go_wp2_with fail
  refine (At_From' HS5.out Hok.out rfl).mono ?_
  rintro x w5 ⟨p5, c5, rfl, ho5, hX⟩
  have HO6 := Lib.hid (EntsOwn.rd ho5)
  have HS6 := Lib.hid (HS5.out.below hX)
  have HA6 := Lib.hid (HA5.out.below hX)
  have HJ6 := Lib.hid (HJ5.out.below hX)
  clear hX ho5 HS5 HA5 HJ5
  go_wp2_with fail
  refine (At_Base HS6.out).mono ?_
  rintro x w6 ⟨rfl, rfl⟩
  go_wp2_with fail
  refine (ref_All HO6.out HJ6.out.o (by omega)).mono ?_
  rintro x w6 ⟨rfl, hX⟩
  have HA := Lib.hid (HA6.out.below hX)
  have HJ := Lib.hid (HJ6.out.below hX)
  clear hX HO6 HS6 HA6 HJ6 Hmay
  obtain ⟨m0, m1, m2, m3, -, -, -, -, hz⟩ := HJ.out.k.c4
  go_wp2_with fail
  clear m0 m1 m2 m3 hz
  have K15 : Blk (w6.alloc (.cells #[.int .u64 pl, .int .u64 pb, .int .u64 pc, .slice q ps.length d] 31)) w6.heap.size 31 #[.int .u64 pl, .int .u64 pb, .int .u64 pc, .slice q ps.length d] := Blk.new _ _ _
  have hb15 := (Below.refl _ w6).alloc (Nat.le_refl _) (.cells #[.int .u64 pl, .int .u64 pb, .int .u64 pc, .slice q ps.length d] 31)
  have HA7 := Lib.hid (HA.out.below hb15)
  have HJ7 := Lib.hid (HJ.out.below hb15)
  have KP7 := Lib.hid K15
  clear HA HJ hb15 K15
  have hparts := may_parts Hmy.out
  refine (pack_Join_low HA7.out Hok.out HJ7.out.p Hmy.out hb0 hparts.2.1 hps hlo).mono ?_
  rintro x w8 ⟨rfl, hX⟩
  have HJ8 := Lib.hid (HJ7.out.below hX)
  have KP8 := Lib.hid (Blk.below KP7.out hX)
  clear hX HJ7 HA7 KP7
  obtain ⟨m0, m1, m2, m3, -, -, -, -, hz⟩ := KP8.out.c4
  go_wp2_with fail
  refine (pack_May HJ8.out.p (by omega) hb0).mono ?_
  rintro x w9 ⟨rfl, hX⟩
  rw [Hmy.out]
  have HJ9 := Lib.hid (HJ8.out.below hX)
  have KP9 := Lib.hid (Blk.below KP8.out hX)
  clear hX HJ8 KP8 m0 m1 m2 m3 hz
  obtain ⟨m0, m1, m2, m3, -, -, -, -, hz⟩ := KP9.out.c4
  go_wp2_with fail
  refine (pack_Op (by omega)).mono ?_
  rintro x w10 ⟨rfl, hX⟩
  rw [IntWalk.u64_in (pb + (ps.length : Int)) (by omega)]
  have HJ10 := Lib.hid (HJ9.out.below hX)
  clear hX HJ9 KP9 m0 m1 m2 m3 hz
  have dM : decide (pb + (ps.length : Int) < m) = true := by simp; omega
  go_wp2_with fail
  refine (wakes_true).mono ?_
  rintro x w11 ⟨rfl, hX⟩
  have HJ11 := Lib.hid (HJ10.out.below hX)
  clear hX HJ10
  go_wp2_with fail
  go_ret
  exact ⟨rfl, HJ11.out.b⟩
end Go.Proofs.Yteijpcedggkdpaa
