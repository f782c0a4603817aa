/-
  ChangePlays: the document's change: the contract of Hand. (Printed by wip/gen_rfh22.py.)
-/
import Derived.Test.YtgmekodfkhihiaaRf22T
namespace Go.Proofs.Ytgmekodfkhihiaa
open Go.RowKit Go.Maps
set_option linter.unusedSimpArgs false
set_option linter.unusedVariables false
theorem wp_append_at {P : Program} {w : World} {o : Oper} {a : Act} {K : Act → World → Prop} {Q : Exit → Act → World → Prop} (s x : Operand) (t : TypeId)
    (ho : o.op = .call { callee := .builtin .append, args := #[s, x], argTypes := #[t, t] })
    (base : Nat) (e : TypeId) (i : TypeInfo) (z : Value) (size bytes : Nat) (ht : P.underlying t = some (.slice e)) (hi : P.info? e = some i) (hz : i.zero = some z)
    (hsize : i.size = size) (hby : i.bytes = bytes) (hzs : z.cells.size = size) (hsz : 0 < size)
    (v : Value) (n : Nat) (xs : List Value) (hs : a.eval s = v) (hown : w.ownsRow base e size v n xs)
    (ad : Addr) (m c : Nat) (news : List Value) (hx : a.eval x = .slice (some ad) m c) (hl : news.length = m * size) (hnews : ∀ j u, news[j]? = some u → w.cell? (ad.add j) = some u) (h1 : ∀ u ∈ news, u.oneCell' = true)
    (h63 : n + m ≤ maxLen) (hbytes : (n + m) * bytes ≤ 140737488355328) (hbase : base ≤ w.heap.size)
    (h : ∀ v' w', w'.ownsRow base e size v' (n + m) (xs ++ news) → w.grownBy w' v.ownBlock → (v'.ownBlock = v.ownBlock ∨ v'.ownBlock = some w.heap.size) → K (a.put o.dst v') w') : o.wp P a w K Q := by
  obtain ⟨v', w', hr, h2, h3, -, h5⟩ := run_append_own_at (P := P) w base t o.type e i z size bytes ht hi hz hsize hby hzs hsz v n xs hown ad m c news hl hnews h1 h63 hbytes hbase
  unfold Oper.wp execOp
  simp only [ho, resolve, invoke, builtin, Sem.run_bind, Sem.run_pure, Result.andThen_ok, List.map_toArray, List.map_cons, List.map_nil, hs, hx, hr]
  exact h v' w' h2 h3 h5
theorem five_at {cs : List Value} {k : Nat} {a b c d e : Value} (h : (cs.drop k).take 5 = [a, b, c, d, e]) : cs[k]? = some a ∧ cs[k + 1]? = some b ∧ cs[k + 2]? = some c ∧ cs[k + 3]? = some d ∧ cs[k + 4]? = some e := by
  have g : ∀ j, j < 5 → cs[k + j]? = [a, b, c, d, e][j]? := fun j hj => by rw [← h, List.getElem?_take_of_lt hj, List.getElem?_drop]
  exact ⟨by simpa using g 0 (by omega), by simpa using g 1 (by omega), by simpa using g 2 (by omega), by simpa using g 3 (by omega), by simpa using g 4 (by omega)⟩
def set5 (cs : List Value) (k : Nat) (b c d e : Value) : List Value := (((cs.set (k * 5 + 1) b).set (k * 5 + 2) c).set (k * 5 + 3) d).set (k * 5 + 4) e
theorem set5_other {cs : List Value} {i k : Nat} {b c d e : Value} (h : i ≠ k) : ((set5 cs k b c d e).drop (i * 5)).take 5 = (cs.drop (i * 5)).take 5 := by
  refine List.ext_getElem? fun j => ?_
  rw [List.getElem?_take, List.getElem?_take]
  split
  · unfold set5
    rw [List.getElem?_drop, List.getElem?_drop, List.getElem?_set_ne (by omega), List.getElem?_set_ne (by omega), List.getElem?_set_ne (by omega), List.getElem?_set_ne (by omega)]
  · rfl
theorem set5_same {cs : List Value} {k : Nat} {a b c d e b' c' d' e' : Value} (h : (cs.drop (k * 5)).take 5 = [a, b', c', d', e']) : ((set5 cs k b c d e).drop (k * 5)).take 5 = [a, b, c, d, e] := by
  obtain ⟨h0, h1, h2, h3, h4⟩ := five_at h
  have hj := (List.getElem?_eq_some_iff.1 h4).1
  unfold set5
  refine List.ext_getElem? fun j => ?_
  rw [List.getElem?_take]
  split
  · rename_i hj5
    rw [List.getElem?_drop]
    match j, hj5 with
    | 0, _ => simp [List.getElem?_set, h0] <;> simpa using h0
    | 1, _ => simp [List.getElem?_set]; omega
    | 2, _ => simp [List.getElem?_set]; omega
    | 3, _ => simp [List.getElem?_set]; omega
    | 4, _ => simp [List.getElem?_set]; omega
  · rw [List.getElem?_eq_none (by simp; omega)]
section
variable {w w' : World} {R R' A : Nat → Prop} {b : Nat} {n me v : Int} {tell : List Nat} {l : List (Nat × Pk)} {tp lp : Option Addr} {tc lc : Nat}
/-- One that handed in, cell by cell. -/
theorem hand_cells (H : RIn w R A b n me v tell l tp tc lp lc) {j : Nat} (hj : j < l.length) : ∃ g q d cur, lp = some ⟨g, 0, none⟩ ∧ l.length ≤ lc ∧ Blk w g 93 cur ∧ R g ∧ w.cell? ⟨g, j * 5, none⟩ = some (.int .i64 (l[j].1 : Int)) ∧ w.cell? ⟨g, j * 5 + 1, none⟩ = some (.int .u64 l[j].2.l) ∧ w.cell? ⟨g, j * 5 + 2, none⟩ = some (.int .u64 l[j].2.b) ∧ w.cell? ⟨g, j * 5 + 3, none⟩ = some (.int .u64 l[j].2.c) ∧ w.cell? ⟨g, j * 5 + 4, none⟩ = some (.slice q l[j].2.es.length d) ∧ EntsRd w A (.slice q l[j].2.es.length d) l[j].2.es := by
  obtain ⟨cs, ho, hE⟩ := H.hl
  obtain ⟨s, hs, hq⟩ := hE.2 j l[j] (List.getElem?_eq_getElem hj)
  obtain ⟨cs', hr', -⟩ := id hq
  obtain ⟨q, d, rfl⟩ := Rd.slice hr'
  obtain ⟨h0, h1, h2, h3, h4⟩ := five_at hs
  have hB : ∃ g cur, lp = some ⟨g, 0, none⟩ ∧ l.length ≤ lc ∧ Blk w g 93 cur := by
    rcases ho.2 with ⟨e1, e2⟩ | ⟨g, cap, cur, e1, _, hh, hn, _⟩
    · omega
    · injection e1 with e1 e2 e3
      exact ⟨g, cur, e1, by omega, hh⟩
  obtain ⟨g, cur, rfl, hc, hblk⟩ := hB
  have hlen : cs.length = l.length * 5 := hE.1
  have hce : ∀ i u, cs[i]? = some u → w.cell? ⟨g, i, none⟩ = some u := fun i u hu => by
    rw [ho.cellAt i (by rw [← hlen]; exact (List.getElem?_eq_some_iff.1 hu).1)]
    exact hu
  exact ⟨g, q, d, cur, rfl, hc, hblk, H.rl g rfl, hce _ _ h0, hce _ _ h1, hce _ _ h2, hce _ _ h3, hce _ _ h4, hq⟩
theorem rf_Hand_from {k vn pl pb pc : Int} {p : Option Addr} {m d : Nat} (H : RIn w R A b n me v tell l tp tc lp lc) (hk : k < 0 ∨ n ≤ k) :
    Calls Try.prog 20 #[.pointer (some ⟨b, 0, none⟩), .int .u64 vn, .int .i64 k, .agg #[.int .u64 pl, .int .u64 pb, .int .u64 pc, .slice p m d]] w fun x w' => x = .returned (.tuple #[.bool false, .int .i64 1]) ∧ Below w.heap.size w w' := by
  have hb := (Below.refl w.heap.size w).alloc (Nat.le_refl _) (.cells #[.int .u64 pl, .int .u64 pb, .int .u64 pc, .slice p m d] 45)
  obtain ⟨a0, a1, a2, a3, a4, ff, hz⟩ := (H.below hb).kb.c5
  have HB := Lib.hid hb
  clear H ff hb
  by_cases h1 : k < 0
  · have d1 : decide (k < 0) = true := by simpa using h1
    clear hk
    go_enter Try.func20, Try.ntmps20
    go_wp2_with fail
    go_ret2
    exact ⟨rfl, HB.out⟩
  · have d1 : decide (k < 0) = false := by simpa using h1
    have d2 : decide (n ≤ k) = true := by simp; omega
    clear hk
    go_enter Try.func20, Try.ntmps20
    go_wp2_with fail
    go_ret2
    exact ⟨rfl, HB.out⟩
theorem rf_Hand_may {k vn pl pb pc : Int} {p : Option Addr} {c : Nat} {es : List Ent} (H : RIn w R A b n me v tell l tp tc lp lc) (h0 : 0 ≤ k) (h1 : k < n) (hs : EntsRd w A (.slice p es.length c) es) (hn64 : es.length ≤ 1152921504606846976) (hb0 : 0 ≤ pb) (hm : mayB pl pb pc es = false) :
    Calls Try.prog 20 #[.pointer (some ⟨b, 0, none⟩), .int .u64 vn, .int .i64 k, .agg #[.int .u64 pl, .int .u64 pb, .int .u64 pc, .slice p es.length c]] w fun x w' => x = .returned (.tuple #[.bool false, .int .i64 1]) ∧ Below w.heap.size w w' := by
  have hb := (Below.refl w.heap.size w).alloc (Nat.le_refl _) (.cells #[.int .u64 pl, .int .u64 pb, .int .u64 pc, .slice p es.length c] 45)
  have kB := Blk.new w 45 #[.int .u64 pl, .int .u64 pb, .int .u64 pc, .slice p es.length c]
  have HH := Lib.hid (H.below hb)
  obtain ⟨a0, a1, a2, a3, a4, ff, hz⟩ := (H.below hb).kb.c5
  have HS := Lib.hid (hs.below hb)
  obtain ⟨m0, m1, m2, m3, -, -, -, -, hzp⟩ := kB.c4
  have HB := Lib.hid hb
  have KB := Lib.hid kB
  have d1 : decide (k < 0) = false := by simp; omega
  have d2 : decide (n ≤ k) = false := by simp; omega
  clear H ff hb hs kB
  clear HH
  go_enter Try.func20, Try.ntmps20
  go_wp2_with fail
  generalize w.alloc (.cells #[.int .u64 pl, .int .u64 pb, .int .u64 pc, .slice p es.length c] 45) = W1 at *
  refine (rf_May HS.out hn64 hb0).mono ?_
  rw [hm]
  rintro x W2 ⟨rfl, hb⟩
  have HB2 := Lib.hid (HB.out.trans (hb.mono HB.out.size))
  clear hb a0 a1 a2 a3 a4 hz m0 m1 m2 m3 hzp
  go_wp2_with fail
  go_ret2
  exact ⟨rfl, HB2.out⟩
theorem rf_Hand_state {k vn pl pb pc : Int} {p : Option Addr} {c : Nat} {es : List Ent} (H : RIn w R A b n me v tell l tp tc lp lc) (h0 : 0 ≤ k) (h1 : k < n) (hs : EntsRd w A (.slice p es.length c) es) (hn64 : es.length ≤ 1152921504606846976) (hb0 : 0 ≤ pb) (hm : mayB pl pb pc es = true) (hv : vn ≠ v) :
    Calls Try.prog 20 #[.pointer (some ⟨b, 0, none⟩), .int .u64 vn, .int .i64 k, .agg #[.int .u64 pl, .int .u64 pb, .int .u64 pc, .slice p es.length c]] w fun x w' => x = .returned (.tuple #[.bool false, .int .i64 39]) ∧ Below w.heap.size w w' := by
  have hb := (Below.refl w.heap.size w).alloc (Nat.le_refl _) (.cells #[.int .u64 pl, .int .u64 pb, .int .u64 pc, .slice p es.length c] 45)
  have kB := Blk.new w 45 #[.int .u64 pl, .int .u64 pb, .int .u64 pc, .slice p es.length c]
  have HH := Lib.hid (H.below hb)
  obtain ⟨a0, a1, a2, a3, a4, ff, hz⟩ := (H.below hb).kb.c5
  have HS := Lib.hid (hs.below hb)
  obtain ⟨m0, m1, m2, m3, -, -, -, -, hzp⟩ := kB.c4
  have HB := Lib.hid hb
  have KB := Lib.hid kB
  have d1 : decide (k < 0) = false := by simp; omega
  have d2 : decide (n ≤ k) = false := by simp; omega
  clear H ff hb hs kB
  have d4 : (vn != v) = true := by simpa using hv
  clear hv
  go_enter Try.func20, Try.ntmps20
  go_wp2_with fail
  generalize w.alloc (.cells #[.int .u64 pl, .int .u64 pb, .int .u64 pc, .slice p es.length c] 45) = W1 at *
  refine (rf_May HS.out hn64 hb0).mono ?_
  rw [hm]
  rintro x W2 ⟨rfl, hb⟩
  have HB2 := Lib.hid (HB.out.trans (hb.mono HB.out.size))
  have HH2 := Lib.hid (HH.out.below hb)
  clear hb a0 a1 a2 a3 a4 hz m0 m1 m2 m3 hzp HH
  obtain ⟨a0, a1, a2, a3, a4, -, hz⟩ := HH2.out.kb.c5
  go_wp2_with fail
  go_ret2
  exact ⟨rfl, HB2.out⟩

theorem RIn.putP_ {w1 : World} {g i k : Nat} {cur : Array Value} {pl pb pc : Int} {p : Option Addr} {c : Nat} {es : List Ent} (H : RIn w R A b n me v tell l tp tc (some ⟨g, 0, none⟩) lc) (hg : Blk w g 93 cur) (hi : i < l.length) (hs : EntsRd w A (.slice p es.length c) es) (hA : ∀ j, A j → ¬ R j) (hik : l[i].1 = k)
    (hw : w1 = (((w.setCell ⟨g, i * 5 + 1, none⟩ (.int .u64 pl)).setCell ⟨g, i * 5 + 2, none⟩ (.int .u64 pb)).setCell ⟨g, i * 5 + 3, none⟩ (.int .u64 pc)).setCell ⟨g, i * 5 + 4, none⟩ (.slice p es.length c)) :
    RIn w1 R A b n me v tell (putP l i ⟨pl, pb, pc, es⟩) tp tc (some ⟨g, 0, none⟩) lc ∧ Ext R w w1 := by
  subst hw
  have hRg : R g := H.rl g rfl
  have hE : Ext R w ((((w.setCell ⟨g, i * 5 + 1, none⟩ (.int .u64 pl)).setCell ⟨g, i * 5 + 2, none⟩ (.int .u64 pb)).setCell ⟨g, i * 5 + 3, none⟩ (.int .u64 pc)).setCell ⟨g, i * 5 + 4, none⟩ (.slice p es.length c)) := (Ext.refl R w).sets4 hRg
  have hEg : Ext (fun j => j = g) w ((((w.setCell ⟨g, i * 5 + 1, none⟩ (.int .u64 pl)).setCell ⟨g, i * 5 + 2, none⟩ (.int .u64 pb)).setCell ⟨g, i * 5 + 3, none⟩ (.int .u64 pc)).setCell ⟨g, i * 5 + 4, none⟩ (.slice p es.length c)) := (Ext.refl (fun j => j = g) w).sets4 rfl
  obtain ⟨cs, ho, hEl⟩ := H.hl
  have hpl : (putP l i ⟨pl, pb, pc, es⟩).length = l.length := by unfold putP; rw [List.length_set]
  have hne : b ≠ g := H.kb.ne_ hg (by decide)
  have hget : l.getD i (0, noPk) = l[i] := by simp [List.getD, List.getElem?_eq_getElem hi]
  refine ⟨⟨?_, own_keep H.ht (fun j _ hj e => hEg.block j hj (fun e2 => by subst e2; exact own_ne H.ht hg (by decide) e)), ⟨set5 cs i (.int .u64 pl) (.int .u64 pb) (.int .u64 pc) (.slice p es.length c), ?_, ?_⟩, H.rt, ?_, H.rb, fun j hj => Nat.lt_of_lt_of_le (H.lt j hj) hE.size⟩, hE⟩
  · rw [hpl]; exact (hEg.block b H.kb.lt (fun e => hne e)).trans H.kb
  · rw [hpl]
    exact ((((ho.stored (i * 5 + 1) _).1.stored (i * 5 + 2) _).1.stored (i * 5 + 3) _).1.stored (i * 5 + 4) _).1
  · refine ⟨by unfold set5 putP; simp [hEl.1], fun j x hx => ?_⟩
    by_cases hji : j = i
    · subst hji
      obtain ⟨s, hs', -⟩ := hEl.2 j l[j] (List.getElem?_eq_getElem hi)
      unfold putP at hx
      rw [List.getElem?_set_self hi] at hx
      injection hx with hx
      subst hx
      rw [set5_same hs', hget]
      exact ⟨_, rfl, hs.keep (fun k' hk' hAk => hE.block k' hk' (hA k' hAk)) (fun _ h _ => h)⟩
    · unfold putP at hx
      rw [List.getElem?_set_ne (fun e => hji e.symm)] at hx
      obtain ⟨s, hs', hq⟩ := hEl.2 j x hx
      rw [set5_other hji]
      exact ⟨s, hs', hq.keep (fun k' hk' hAk => hE.block k' hk' (hA k' hAk)) (fun _ h _ => h)⟩
  · rw [hpl]; exact H.rl
set_option maxHeartbeats 3200000 in
set_option maxRecDepth 100000 in
theorem rf_Hand_old {k i : Nat} {pl pb pc : Int} {p : Option Addr} {c : Nat} {es : List Ent} (H : RIn w R A b n me v tell l tp tc lp lc) (h1 : (k : Int) < n) (hs : EntsRd w A (.slice p es.length c) es) (hn64 : es.length ≤ 1152921504606846976) (hb0 : 0 ≤ pb) (hm : mayB pl pb pc es = true) (h7 : l.length ≤ 7) (hi : i < l.length) (hik : l[i].1 = k) (hA : ∀ j, A j → ¬ R j) (hAw : ∀ j, A j → j < w.heap.size) :
    Calls Try.prog 20 #[.pointer (some ⟨b, 0, none⟩), .int .u64 v, .int .i64 (k : Int), .agg #[.int .u64 pl, .int .u64 pb, .int .u64 pc, .slice p es.length c]] w fun x w' => ∃ i', i' < l.length ∧ (l.getD i' (0, noPk)).1 = k ∧ x = .returned (.tuple #[.bool false, .int .i64 0]) ∧ RCh w' R A b n me v tell (putP l i' ⟨pl, pb, pc, es⟩) ∧ Ext R w w' := by
  have hb := (Below.refl w.heap.size w).alloc (Nat.le_refl _) (.cells #[.int .u64 pl, .int .u64 pb, .int .u64 pc, .slice p es.length c] 45)
  have kB := Blk.new w 45 #[.int .u64 pl, .int .u64 pb, .int .u64 pc, .slice p es.length c]
  have HH := Lib.hid (H.below hb)
  obtain ⟨a0, a1, a2, a3, a4, ff, hz⟩ := (H.below hb).kb.c5
  have HS := Lib.hid (hs.below hb)
  obtain ⟨m0, m1, m2, m3, -, -, -, -, hzp⟩ := kB.c4
  have HB := Lib.hid hb
  have KB := Lib.hid kB
  have d1 : decide ((k : Int) < 0) = false := by simp
  have d2 : decide (n ≤ (k : Int)) = false := by simp; omega
  clear H ff hb hs kB
  go_enter Try.func20, Try.ntmps20
  go_wp2_with fail
  generalize w.alloc (.cells #[.int .u64 pl, .int .u64 pb, .int .u64 pc, .slice p es.length c] 45) = W1 at *
  refine (rf_May HS.out hn64 hb0).mono ?_
  rw [hm]
  rintro x W2 ⟨rfl, hb⟩
  have HB2 := Lib.hid (HB.out.trans (hb.mono HB.out.size))
  have HH2 := Lib.hid (HH.out.below hb)
  have HS2 := Lib.hid (HS.out.below hb)
  have KB2 := Lib.hid (KB.out.below hb)
  clear hb a0 a1 a2 a3 a4 hz m0 m1 m2 m3 hzp HH HB HS KB
  obtain ⟨a0, a1, a2, a3, a4, ff, hz⟩ := HH2.out.kb.c5
  have f4 := ff 4
  clear ff
  obtain ⟨m0, m1, m2, m3, -, -, -, -, hzp⟩ := KB2.out.c4
  have HA := Lib.hid hA
  have Hik := Lib.hid hik
  clear hA hik
  go_wp2_with fail
  go_loopw [10] (fun iv wr => ∃ j : Nat, j ≤ l.length ∧ iv = .int .i64 j ∧ wr = W2 ∧ Hid (∀ r (hr : r < l.length), r < j → l[r].1 ≠ k)) (fun iv _ => l.length - (intOf iv).toNat)
  case atStart => exact ⟨0, Nat.zero_le _, rfl, rfl, Lib.hid (fun r hr h => absurd h (by omega))⟩
  case round =>
    obtain ⟨j, hj, rfl, rfl, Hl⟩ := hrel
    by_cases hlt : j < l.length
    · obtain ⟨g, q, d, cur, rfl, hc, hblk, hRg, e0, e1, e2, e3, e4, -⟩ := hand_cells HH2.out hlt
      by_cases hx : l[j].1 = k
      · rw [hx] at e0
        have Hx := Lib.hid hx
        have HBk := Lib.hid hblk
        have hfr := hblk.frozen
        have g1 := hfr (j * 5 + 1)
        have g2 := hfr (j * 5 + 2)
        have g3 := hfr (j * 5 + 3)
        have g4 := hfr (j * 5 + 4)
        clear hx hblk hfr
        go_upto_region 9 with fail
        clear e0
        have e1 : wr.drew.cell? ⟨g, j * 5 + 1, none⟩ = _ := e1
        have e2 : wr.drew.cell? ⟨g, j * 5 + 2, none⟩ = _ := e2
        have e3 : wr.drew.cell? ⟨g, j * 5 + 3, none⟩ = _ := e3
        have e4 : wr.drew.cell? ⟨g, j * 5 + 4, none⟩ = _ := e4
        have g1 : wr.drew.frozen? ⟨g, j * 5 + 1, none⟩ = _ := g1
        have g2 : wr.drew.frozen? ⟨g, j * 5 + 2, none⟩ = _ := g2
        have g3 : wr.drew.frozen? ⟨g, j * 5 + 3, none⟩ = _ := g3
        have g4 : wr.drew.frozen? ⟨g, j * 5 + 4, none⟩ = _ := g4
        have hS : Holds [(b, 4, .slice (some ⟨g, 0, none⟩) l.length lc), (w.heap.size, 0, .int .u64 pl), (w.heap.size, 1, .int .u64 pb), (w.heap.size, 2, .int .u64 pc), (w.heap.size, 3, .slice p es.length c)] wr.drew := ⟨a4, m0, m1, m2, m3, trivial⟩
        have HR := Lib.hid (RIn.putP_ (i := j) (HH2.out.below (Below.refl _ wr).drew) HBk.out.drew hlt (HS2.out.below (Below.refl _ wr).drew) HA.out Hx.out (pl := pl) (pb := pb) (pc := pc) rfl)
        have HB3 := Lib.hid (HB2.out.drew)
        have hne1 : b ≠ g := HH2.out.kb.ne_ HBk.out (by decide)
        have hne2 : w.heap.size ≠ g := KB2.out.ne_ HBk.out (by decide)
        have hS8 : Holds [(b, 4, .slice (some ⟨g, 0, none⟩) l.length lc), (w.heap.size, 0, .int .u64 pl), (w.heap.size, 1, .int .u64 pb), (w.heap.size, 2, .int .u64 pc), (w.heap.size, 3, .slice p es.length c)] ((((wr.drew.setCell ⟨g, j * 5 + 1, none⟩ (.int .u64 pl)).setCell ⟨g, j * 5 + 2, none⟩ (.int .u64 pb)).setCell ⟨g, j * 5 + 3, none⟩ (.int .u64 pc)).setCell ⟨g, j * 5 + 4, none⟩ (.slice p es.length c)) := by
          have hEg : Ext (fun r => r = g) wr.drew ((((wr.drew.setCell ⟨g, j * 5 + 1, none⟩ (.int .u64 pl)).setCell ⟨g, j * 5 + 2, none⟩ (.int .u64 pb)).setCell ⟨g, j * 5 + 3, none⟩ (.int .u64 pc)).setCell ⟨g, j * 5 + 4, none⟩ (.slice p es.length c)) := (Ext.refl (fun r => r = g) wr.drew).sets4 rfl
          have kb' := HH2.out.kb.drew.ext hEg hne1
          have kp' := KB2.out.drew.ext hEg hne2
          exact ⟨kb'.cell 4, kp'.cell 0, kp'.cell 1, kp'.cell 2, kp'.cell 3, trivial⟩
        have HS8 := Lib.hid hS8
        clear a0 a1 a2 a3 a4 f4 hz m0 m1 m2 m3 hzp hne1 hne2 HH2 HBk KB2 HS2 hS8
        refine begin_D (T := Hold0) [] (by kernel_rfl) hS (fun _ => trivial) ?_
        generalize wr.drew = V0 at *
        have hltg := lt_of_cell e1
        refine take_S (v := ?v0a) 0 rfl (by kernel_rfl) (by kernel_rfl) (by kernel_rfl) (by kernel_rfl) (fun _ _ _ h => h) hS (fun _ => trivial) rfl (fun w' hq => ?h0a) ?_
        case h0a => obtain ⟨q0, q1, q2, q3, q4, -⟩ := hq; change _ = some _ at q0; change _ = some _ at q1; change _ = some _ at q2; change _ = some _ at q3; change _ = some _ at q4; go_simp; try with_reducible rfl
        try simp only [Act.put, List.setIfInBounds_toArray, List.set_cons_zero, List.set_cons_succ, List.getElem_toArray, List.getElem_cons_succ, List.getElem_cons_zero]
        refine take_S (v := ?v1a) 1 rfl (by kernel_rfl) (by kernel_rfl) (by kernel_rfl) (by kernel_rfl) (fun _ _ _ h => h) hS (fun _ => trivial) rfl (fun w' hq => ?h1a) ?_
        case h1a => obtain ⟨q0, q1, q2, q3, q4, -⟩ := hq; change _ = some _ at q0; change _ = some _ at q1; change _ = some _ at q2; change _ = some _ at q3; change _ = some _ at q4; go_simp; try with_reducible rfl
        try simp only [Act.put, List.setIfInBounds_toArray, List.set_cons_zero, List.set_cons_succ, List.getElem_toArray, List.getElem_cons_succ, List.getElem_cons_zero]
        refine take_S (v := ?v2a) 2 rfl (by kernel_rfl) (by kernel_rfl) (by kernel_rfl) (by kernel_rfl) (fun _ _ _ h => h) hS (fun _ => trivial) rfl (fun w' hq => ?h2a) ?_
        case h2a => obtain ⟨q0, q1, q2, q3, q4, -⟩ := hq; change _ = some _ at q0; change _ = some _ at q1; change _ = some _ at q2; change _ = some _ at q3; change _ = some _ at q4; go_simp; try with_reducible rfl
        try simp only [Act.put, List.setIfInBounds_toArray, List.set_cons_zero, List.set_cons_succ, List.getElem_toArray, List.getElem_cons_succ, List.getElem_cons_zero]
        refine take_S (v := ?v3a) 3 rfl (by kernel_rfl) (by kernel_rfl) (by kernel_rfl) (by kernel_rfl) (fun _ _ _ h => h) hS (fun _ => trivial) rfl (fun w' hq => ?h3a) ?_
        case h3a => obtain ⟨q0, q1, q2, q3, q4, -⟩ := hq; change _ = some _ at q0; change _ = some _ at q1; change _ = some _ at q2; change _ = some _ at q3; change _ = some _ at q4; go_simp; try with_reducible rfl
        try simp only [Act.put, List.setIfInBounds_toArray, List.set_cons_zero, List.set_cons_succ, List.getElem_toArray, List.getElem_cons_succ, List.getElem_cons_zero]
        refine take_S (v := ?v4a) 4 rfl (by kernel_rfl) (by kernel_rfl) (by kernel_rfl) (by kernel_rfl) (fun _ _ _ h => h) hS (fun _ => trivial) rfl (fun w' hq => ?h4a) ?_
        case h4a => obtain ⟨q0, q1, q2, q3, q4, -⟩ := hq; change _ = some _ at q0; change _ = some _ at q1; change _ = some _ at q2; change _ = some _ at q3; change _ = some _ at q4; go_simp; try with_reducible rfl
        try simp only [Act.put, List.setIfInBounds_toArray, List.set_cons_zero, List.set_cons_succ, List.getElem_toArray, List.getElem_cons_succ, List.getElem_cons_zero]
        refine take_S (v := ?v5a) 5 rfl (by kernel_rfl) (by kernel_rfl) (by kernel_rfl) (by kernel_rfl) (fun _ _ _ h => h) hS (fun _ => trivial) rfl (fun w' hq => ?h5a) ?_
        case h5a => obtain ⟨q0, q1, q2, q3, q4, -⟩ := hq; change _ = some _ at q0; change _ = some _ at q1; change _ = some _ at q2; change _ = some _ at q3; change _ = some _ at q4; go_simp; try with_reducible rfl
        try simp only [Act.put, List.setIfInBounds_toArray, List.set_cons_zero, List.set_cons_succ, List.getElem_toArray, List.getElem_cons_succ, List.getElem_cons_zero]
        refine take_S (v := ?v6a) 6 rfl (by kernel_rfl) (by kernel_rfl) (by kernel_rfl) (by kernel_rfl) (fun _ _ _ h => h) hS (fun _ => trivial) rfl (fun w' hq => ?h6a) ?_
        case h6a => obtain ⟨q0, q1, q2, q3, q4, -⟩ := hq; change _ = some _ at q0; change _ = some _ at q1; change _ = some _ at q2; change _ = some _ at q3; change _ = some _ at q4; go_simp; try with_reducible rfl
        try simp only [Act.put, List.setIfInBounds_toArray, List.set_cons_zero, List.set_cons_succ, List.getElem_toArray, List.getElem_cons_succ, List.getElem_cons_zero]
        refine take_S (v := ?v7a) 7 rfl (by kernel_rfl) (by kernel_rfl) (by kernel_rfl) (by kernel_rfl) (fun _ _ _ h => h) hS (fun _ => trivial) rfl (fun w' hq => ?h7a) ?_
        case h7a => obtain ⟨q0, q1, q2, q3, q4, -⟩ := hq; change _ = some _ at q0; change _ = some _ at q1; change _ = some _ at q2; change _ = some _ at q3; change _ = some _ at q4; go_simp; try with_reducible rfl
        try simp only [Act.put, List.setIfInBounds_toArray, List.set_cons_zero, List.set_cons_succ, List.getElem_toArray, List.getElem_cons_succ, List.getElem_cons_zero]
        refine one_D 8 rfl (by kernel_rfl) (fun KQ hK => ?_)
        go_simp
        refine hK.out _ _ HS8.out (fun _ => trivial) ?_
        clear hK hS
        refine done_D (by kernel_rfl) ?_ _
        have hl1 : (l.getD j (0, noPk)).1 = k := by
          have : l.getD j (0, noPk) = l[j] := by simp [List.getD, List.getElem?_eq_getElem hlt]
          rw [this]; exact Hx.out
        have HL1 := Lib.hid hl1
        clear hl1 e1 e2 e3 e4 g1 g2 g3 g4
        go_wp2_with fail
        go_ret2
        exact ⟨j, hlt, HL1.out, rfl, ⟨tp, tc, _, lc, HR.out.1⟩, (Ext.of_below R HB3.out).trans HR.out.2⟩
      · have hne : ((l[j].1 : Int) == (k : Int)) = false := by simp; exact_mod_cast hx
        have Hn := Lib.hid (show ∀ r (hr : r < l.length), r < j + 1 → l[r].1 ≠ k from fun r hr h => by
          rcases Nat.lt_or_ge r j with h' | h'
          · exact Hl.out r hr h'
          · obtain rfl : r = j := by omega
            exact hx)
        clear hx e1 e2 e3 e4 hblk
        go_wp2_with fail
        go_roundw
        case rel => exact ⟨j + 1, by omega, by go_num, by trivial, Hn⟩
        case measure => simp [intOf]; omega
    · obtain rfl : j = l.length := by omega
      exact absurd Hik.out (Hl.out i hi hi)
theorem RIn.handed {w1 w3 : World} {p3 : Option Addr} {c3 k : Nat} {cs : List Value} {pl pb pc : Int} {s : Value} {es : List Ent} (H : RIn w R A b n me v tell l tp tc lp lc) (hb1 : Below w.heap.size w w1)
    (ho : w.ownsRow 0 93 5 (.slice lp l.length lc) l.length cs) (hE : Els (HdR w A) 5 cs l)
    (hown3 : w3.ownsRow 0 93 5 (.slice p3 (l.length + 1) c3) (l.length + 1) (cs ++ [.int .i64 (k : Int), .int .u64 pl, .int .u64 pb, .int .u64 pc, s])) (hgrow : w1.grownBy w3 (Value.slice lp l.length lc).ownBlock)
    (hwh : (Value.slice p3 (l.length + 1) c3).ownBlock = (Value.slice lp l.length lc).ownBlock ∨ (Value.slice p3 (l.length + 1) c3).ownBlock = some w1.heap.size) (hs : EntsRd w A s es) (hA : ∀ j, A j → ¬ R j) :
    RIn (w3.setCell ⟨b, 4, none⟩ (.slice p3 (l.length + 1) c3)) (More R w (w3.setCell ⟨b, 4, none⟩ (.slice p3 (l.length + 1) c3))) A b n me v tell (l ++ [(k, ⟨pl, pb, pc, es⟩)]) tp tc p3 c3 ∧ Ext R w (w3.setCell ⟨b, 4, none⟩ (.slice p3 (l.length + 1) c3)) ∧
      Blk w3 b 60 #[.int .i64 n, .int .i64 me, .int .u64 v, .slice tp tell.length tc, .slice lp l.length lc] := by
  have ho1 := own_below ho hb1
  have hk3 := (H.kb.below hb1).grown hgrow (own_ne ho1 (H.kb.below hb1) (by decide)).symm
  have hE3 : Ext R w w3 := ⟨hgrow.os.trans hb1.os, hgrow.tape.trans hb1.tape, hgrow.output.trans hb1.output, Nat.le_trans hb1.size hgrow.size, fun j hj hn => (hgrow.block j (Nat.lt_of_lt_of_le hj hb1.size) (fun e => hn (H.rl j e.symm))).trans (hb1.block j hj)⟩
  have hE4 : Ext R w (w3.setCell ⟨b, 4, none⟩ (.slice p3 (l.length + 1) c3)) := hE3.setCell (p := ⟨b, 4, none⟩) (.inl H.rb) _
  have hz : (w3.setCell ⟨b, 4, none⟩ (.slice p3 (l.length + 1) c3)).heap.size = w3.heap.size := by simp [World.setCell]
  have hll : (l ++ [(k, (⟨pl, pb, pc, es⟩ : Pk))]).length = l.length + 1 := by simp
  have kA : ∀ j, j < w.heap.size → A j → (w3.setCell ⟨b, 4, none⟩ (.slice p3 (l.length + 1) c3)).heap[j]? = w.heap[j]? := fun j hj hAj => hE4.block j hj (hA j hAj)
  refine ⟨⟨?_, own_set (own_grown (own_below H.ht hb1) ho1 (by decide) hgrow) hk3 (by decide) 4 _, ⟨_, ?_, Els.snoc (Hds.keep hE kA) rfl ⟨s, rfl, hs.keep kA (fun _ h _ => h)⟩⟩, fun j e => more_all H.lt (H.rt j e), ?_, more_all H.lt H.rb, ?_⟩, hE4, hk3⟩
  · rw [hll]; simpa using hk3.set_ 4 (.slice p3 (l.length + 1) c3)
  · rw [hll]
    exact own_set hown3 hk3 (by decide) 4 (.slice p3 (l.length + 1) c3)
  · intro j e
    rw [hll] at e
    have hlt := (hown3.lt j e).2
    rcases hwh with h | h
    · exact more_all H.lt (H.rl j (h ▸ e))
    · rw [h] at e
      injection e with e
      subst e
      exact .inr ⟨hb1.size, by rw [hz]; exact hlt⟩
  · intro j hj
    rcases hj with ⟨h, h'⟩ | ⟨-, h⟩
    · exact Nat.lt_of_lt_of_le h' hE4.size
    · exact h
set_option maxHeartbeats 3200000 in
set_option maxRecDepth 100000 in
theorem rf_Hand_new {k : Nat} {pl pb pc : Int} {p : Option Addr} {c : Nat} {es : List Ent} (H : RIn w R A b n me v tell l tp tc lp lc) (hn7 : n ≤ 7) (h1 : (k : Int) < n) (hs : EntsRd w A (.slice p es.length c) es) (hn64 : es.length ≤ 1152921504606846976) (hb0 : 0 ≤ pb) (hm : mayB pl pb pc es = true) (h7 : l.length ≤ 7) (hin : k ∉ l.map (·.1)) (hA : ∀ j, A j → ¬ R j) :
    Calls Try.prog 20 #[.pointer (some ⟨b, 0, none⟩), .int .u64 v, .int .i64 (k : Int), .agg #[.int .u64 pl, .int .u64 pb, .int .u64 pc, .slice p es.length c]] w fun x w' => x = .returned (.tuple #[.bool (decide ((l.length : Int) + 1 = n / 2 + 1)), .int .i64 0]) ∧ RCh w' (More R w w') A b n me v tell (l ++ [(k, ⟨pl, pb, pc, es⟩)]) ∧ Ext R w w' := by
  obtain ⟨i0, hi, iz0, iz1, iz2⟩ := info_parts infoHd
  have hn0 : 0 ≤ n := by omega
  have HRlt := Lib.hid H.lt
  have hb := (Below.refl w.heap.size w).alloc (Nat.le_refl _) (.cells #[.int .u64 pl, .int .u64 pb, .int .u64 pc, .slice p es.length c] 45)
  have kB := Blk.new w 45 #[.int .u64 pl, .int .u64 pb, .int .u64 pc, .slice p es.length c]
  have HH := Lib.hid (H.below hb)
  obtain ⟨a0, a1, a2, a3, a4, ff, hz⟩ := (H.below hb).kb.c5
  have HS := Lib.hid (hs.below hb)
  obtain ⟨m0, m1, m2, m3, -, -, -, -, hzp⟩ := kB.c4
  have HB := Lib.hid hb
  have KB := Lib.hid kB
  have d1 : decide ((k : Int) < 0) = false := by simp
  have d2 : decide (n ≤ (k : Int)) = false := by simp; omega
  clear H ff hb hs kB
  go_enter Try.func20, Try.ntmps20
  go_wp2_with fail
  generalize w.alloc (.cells #[.int .u64 pl, .int .u64 pb, .int .u64 pc, .slice p es.length c] 45) = W1 at *
  refine (rf_May HS.out hn64 hb0).mono ?_
  rw [hm]
  rintro x W2 ⟨rfl, hb⟩
  have HB2 := Lib.hid (HB.out.trans (hb.mono HB.out.size))
  have HH2 := Lib.hid (HH.out.below hb)
  have HS2 := Lib.hid (HS.out.below hb)
  have KB2 := Lib.hid (KB.out.below hb)
  clear hb a0 a1 a2 a3 a4 hz m0 m1 m2 m3 hzp HH HB HS KB
  obtain ⟨a0, a1, a2, a3, a4, ff, hz⟩ := HH2.out.kb.c5
  have f4 := ff 4
  clear ff
  obtain ⟨m0, m1, m2, m3, -, -, -, -, hzp⟩ := KB2.out.c4
  have HA := Lib.hid hA
  have Hin := Lib.hid hin
  clear hA hin
  go_wp2_with fail
  go_loopw [10] (fun iv wr => ∃ j : Nat, j ≤ l.length ∧ iv = .int .i64 j ∧ wr = W2) (fun iv _ => l.length - (intOf iv).toNat)
  case atStart => exact ⟨0, Nat.zero_le _, rfl, rfl⟩
  case round =>
    obtain ⟨j, hj, rfl, rfl⟩ := hrel
    by_cases hlt : j < l.length
    · obtain ⟨g, q, d, cur, rfl, hc, hblk, hRg, e0, e1, e2, e3, e4, -⟩ := hand_cells HH2.out hlt
      have hne : ((l[j].1 : Int) == (k : Int)) = false := by
        simp
        intro e
        have e' : l[j].1 = k := by exact_mod_cast e
        exact Hin.out (e' ▸ List.mem_map.2 ⟨_, List.getElem_mem hlt, rfl⟩)
      clear e1 e2 e3 e4 hblk
      go_wp2_with fail
      go_roundw
      case rel => exact ⟨j + 1, by omega, by go_num, by trivial⟩
      case measure => simp [intOf]; omega
    · obtain rfl : j = l.length := by omega
      clear hlt hj
      go_upto_region 11 with fail
      have hS : Holds [(w.heap.size, 0, .int .u64 pl), (w.heap.size, 1, .int .u64 pb), (w.heap.size, 2, .int .u64 pc), (w.heap.size, 3, .slice p es.length c)] wr.drew := ⟨m0, m1, m2, m3, trivial⟩
      have hT : Hold1 (b, 4, .slice lp l.length lc) wr.drew := a4
      have hltb : b < wr.drew.heap.size := hz
      have HH3 := Lib.hid (HH2.out.below (Below.refl _ wr).drew)
      have HS3 := Lib.hid (HS2.out.below (Below.refl _ wr).drew)
      have KB3 := Lib.hid KB2.out.drew
      have HB3 := Lib.hid HB2.out.drew
      clear a0 a1 a2 a3 a4 f4 hz m0 m1 m2 m3 hzp HH2 HS2 KB2 HB2
      refine begin_D (T := Hold1 (b, 4, .slice lp l.length lc)) [12] (by kernel_rfl) hS (fun _ => hT) ?_
      generalize wr.drew = V0 at *
      refine take_S (v := ?v0b) 0 rfl (by kernel_rfl) (by kernel_rfl) (by kernel_rfl) (by kernel_rfl) (fun _ _ _ h => h) hS (fun _ => hT) rfl (fun w' hq => ?h0b) ?_
      case h0b => obtain ⟨q0, q1, q2, q3, -⟩ := hq; change _ = some _ at q0; change _ = some _ at q1; change _ = some _ at q2; change _ = some _ at q3; go_simp; try with_reducible rfl
      try simp only [Act.put, List.setIfInBounds_toArray, List.set_cons_zero, List.set_cons_succ, List.getElem_toArray, List.getElem_cons_succ, List.getElem_cons_zero]
      refine take_S (v := ?v1b) 1 rfl (by kernel_rfl) (by kernel_rfl) (by kernel_rfl) (by kernel_rfl) (fun _ _ _ h => h) hS (fun _ => hT) rfl (fun w' hq => ?h1b) ?_
      case h1b => obtain ⟨q0, q1, q2, q3, -⟩ := hq; change _ = some _ at q0; change _ = some _ at q1; change _ = some _ at q2; change _ = some _ at q3; go_simp; try with_reducible rfl
      try simp only [Act.put, List.setIfInBounds_toArray, List.set_cons_zero, List.set_cons_succ, List.getElem_toArray, List.getElem_cons_succ, List.getElem_cons_zero]
      refine take_S (v := ?v2b) 2 rfl (by kernel_rfl) (by kernel_rfl) (by kernel_rfl) (by kernel_rfl) (fun _ _ _ h => h) hS (fun _ => hT) rfl (fun w' hq => ?h2b) ?_
      case h2b => obtain ⟨q0, q1, q2, q3, -⟩ := hq; change _ = some _ at q0; change _ = some _ at q1; change _ = some _ at q2; change _ = some _ at q3; go_simp; try with_reducible rfl
      try simp only [Act.put, List.setIfInBounds_toArray, List.set_cons_zero, List.set_cons_succ, List.getElem_toArray, List.getElem_cons_succ, List.getElem_cons_zero]
      refine take_S (v := ?v3b) 3 rfl (by kernel_rfl) (by kernel_rfl) (by kernel_rfl) (by kernel_rfl) (fun _ _ _ h => h) hS (fun _ => hT) rfl (fun w' hq => ?h3b) ?_
      case h3b => obtain ⟨q0, q1, q2, q3, -⟩ := hq; change _ = some _ at q0; change _ = some _ at q1; change _ = some _ at q2; change _ = some _ at q3; go_simp; try with_reducible rfl
      try simp only [Act.put, List.setIfInBounds_toArray, List.set_cons_zero, List.set_cons_succ, List.getElem_toArray, List.getElem_cons_succ, List.getElem_cons_zero]
      refine take_T (v := ?v4b) 4 rfl (by kernel_rfl) (by kernel_rfl) (by kernel_rfl) (by kernel_rfl) (by kernel_rfl) (by kernel_rfl) (fun _ _ _ h => h) hS (fun _ => hT) rfl (fun w' hq hr => ?h4b) ?_
      case h4b => obtain ⟨hq0, hq1, hq2, hq3, -⟩ := hq; change _ = some _ at hq0; change _ = some _ at hq1; change _ = some _ at hq2; change _ = some _ at hq3; change _ = some _ at hr; go_simp; try with_reducible rfl
      try simp only [Act.put, List.setIfInBounds_toArray, List.set_cons_zero, List.set_cons_succ, List.getElem_toArray, List.getElem_cons_succ, List.getElem_cons_zero]
      refine take_S (v := ?v5b) 5 rfl (by kernel_rfl) (by kernel_rfl) (by kernel_rfl) (by kernel_rfl) (fun _ _ _ h => h) hS (fun _ => hT) rfl (fun w' hq => ?h5b) ?_
      case h5b => obtain ⟨q0, q1, q2, q3, -⟩ := hq; change _ = some _ at q0; change _ = some _ at q1; change _ = some _ at q2; change _ = some _ at q3; go_simp; try with_reducible rfl
      try simp only [Act.put, List.setIfInBounds_toArray, List.set_cons_zero, List.set_cons_succ, List.getElem_toArray, List.getElem_cons_succ, List.getElem_cons_zero]
      refine take_S (v := ?v6b) 6 rfl (by kernel_rfl) (by kernel_rfl) (by kernel_rfl) (by kernel_rfl) (fun _ _ _ h => h) hS (fun _ => hT) rfl (fun w' hq => ?h6b) ?_
      case h6b => obtain ⟨q0, q1, q2, q3, -⟩ := hq; change _ = some _ at q0; change _ = some _ at q1; change _ = some _ at q2; change _ = some _ at q3; go_simp; try with_reducible rfl
      try simp only [Act.put, List.setIfInBounds_toArray, List.set_cons_zero, List.set_cons_succ, List.getElem_toArray, List.getElem_cons_succ, List.getElem_cons_zero]
      refine take_S (v := ?v7b) 7 rfl (by kernel_rfl) (by kernel_rfl) (by kernel_rfl) (by kernel_rfl) (fun _ _ _ h => h) hS (fun _ => hT) rfl (fun w' hq => ?h7b) ?_
      case h7b => obtain ⟨q0, q1, q2, q3, -⟩ := hq; change _ = some _ at q0; change _ = some _ at q1; change _ = some _ at q2; change _ = some _ at q3; go_simp; try with_reducible rfl
      try simp only [Act.put, List.setIfInBounds_toArray, List.set_cons_zero, List.set_cons_succ, List.getElem_toArray, List.getElem_cons_succ, List.getElem_cons_zero]
      refine one_D 8 rfl (by kernel_rfl) (fun KQ hK => ?_)
      go_simp
      have hb8 := (Below.refl V0.heap.size V0).alloc (Nat.le_refl _) (.cells #[.int .i64 (k : Int), .int .u64 pl, .int .u64 pb, .int .u64 pc, .slice p es.length c] 93)
      have kN := Blk.new V0 93 #[.int .i64 (k : Int), .int .u64 pl, .int .u64 pb, .int .u64 pc, .slice p es.length c]
      have hsz8 : (V0.alloc (.cells #[.int .i64 (k : Int), .int .u64 pl, .int .u64 pb, .int .u64 pc, .slice p es.length c] 93)).heap.size = V0.heap.size + 1 := World.size_alloc _ _
      have hS8 : Holds [(w.heap.size, 0, .int .u64 pl), (w.heap.size, 1, .int .u64 pb), (w.heap.size, 2, .int .u64 pc), (w.heap.size, 3, .slice p es.length c)] (V0.alloc (.cells #[.int .i64 (k : Int), .int .u64 pl, .int .u64 pb, .int .u64 pc, .slice p es.length c] 93)) := Holds.below hS hb8
      have hT8 : Hold1 (b, 4, .slice lp l.length lc) (V0.alloc (.cells #[.int .i64 (k : Int), .int .u64 pl, .int .u64 pb, .int .u64 pc, .slice p es.length c] 93)) := (hb8.cell (p := ⟨b, 4, none⟩) hltb).trans hT
      refine hK.out _ _ hS8 (fun _ => hT8) ?_
      clear hK hS hT hltb
      generalize V0.alloc (.cells #[.int .i64 (k : Int), .int .u64 pl, .int .u64 pb, .int .u64 pc, .slice p es.length c] 93) = V1 at *
      obtain ⟨cs, ho, hEl⟩ := HH3.out.hl
      have Ho := Lib.hid ho
      have HEl := Lib.hid hEl
      have Hb8 := Lib.hid hb8
      have HN := Lib.hid kN
      have Hsz := Lib.hid hsz8
      clear ho hEl hb8 kN hsz8
      refine one_D 9 rfl (by kernel_rfl) (fun KQ hK => ?_)
      refine Eq.mpr (if_pos (by rfl)) ?_
      refine wp_append_at (.tmp 63) (.tmp 67) 58 rfl 0 93 i0 (.agg #[.int .i64 0, .int .u64 0, .int .u64 0, .int .u64 0, .slice none 0 0]) 5 56 Try.underlying58 hi iz0 iz1 iz2 rfl (by decide) (.slice lp l.length lc) l.length cs rfl (own_below Ho.out Hb8.out) ⟨V0.heap.size, 0, none⟩ 1 1 [.int .i64 (k : Int), .int .u64 pl, .int .u64 pb, .int .u64 pc, .slice p es.length c] rfl rfl ?c1 ?c2 ?c3 ?c4 ?c5 ?_
      case c1 => exact news_of_block HN.out
      case c2 => intro u hu; simp at hu; rcases hu with rfl | rfl | rfl | rfl | rfl <;> rfl
      case c3 => unfold maxLen; omega
      case c4 => omega
      case c5 => exact Nat.zero_le _
      intro v5 w5 hown5 hgrow5 hwh5
      obtain ⟨p5, c5, rfl⟩ := own_slice hown5
      obtain ⟨hin5, hex5, hk5⟩ := HH3.out.handed Hb8.out Ho.out HEl.out hown5 hgrow5 hwh5 HS3.out HA.out
      have HI := Lib.hid hin5
      have HX := Lib.hid hex5
      have kp5 := (KB3.out.below Hb8.out).grown hgrow5 (own_ne (own_below Ho.out Hb8.out) (KB3.out.below Hb8.out) (by decide)).symm
      have hT9 : Hold1 (b, 4, .slice lp l.length lc) w5 := hk5.cell 4
      have hS9 : Holds [(w.heap.size, 0, .int .u64 pl), (w.heap.size, 1, .int .u64 pb), (w.heap.size, 2, .int .u64 pc), (w.heap.size, 3, .slice p es.length c)] w5 := ⟨kp5.cell 0, kp5.cell 1, kp5.cell 2, kp5.cell 3, trivial⟩
      have hcell4 : w5.cell? ⟨b, 4, none⟩ = some (.slice lp l.length lc) := hk5.cell 4
      have hfr4 := hk5.frozen 4
      have hbp : w.heap.size ≠ b := KB3.out.ne_ HH3.out.kb (by decide)
      have hS10 : Holds [(w.heap.size, 0, .int .u64 pl), (w.heap.size, 1, .int .u64 pb), (w.heap.size, 2, .int .u64 pc), (w.heap.size, 3, .slice p es.length c)] (w5.setCell ⟨b, 4, none⟩ (.slice p5 (l.length + 1) c5)) := by
        have kp6 := kp5.far (p := ⟨b, 4, none⟩) hbp (.slice p5 (l.length + 1) c5)
        exact ⟨kp6.cell 0, kp6.cell 1, kp6.cell 2, kp6.cell 3, trivial⟩
      have HS10 := Lib.hid hS10
      refine hK.out _ _ hS9 (fun _ => hT9) ?_
      clear hS10 hbp hK hS8 hT8 hown5 hgrow5 hwh5 hin5 hex5 hk5 kp5 HH3 HS3 KB3 Ho HEl Hb8 HN Hsz
      refine take_S (v := ?v10c) 10 rfl (by kernel_rfl) (by kernel_rfl) (by kernel_rfl) (by kernel_rfl) (fun _ _ _ h => h) hS9 (fun _ => hT9) rfl (fun w' hq => ?h10c) ?_
      case h10c => go_simp; try with_reducible rfl
      try simp only [Act.put, List.setIfInBounds_toArray, List.set_cons_zero, List.set_cons_succ, List.getElem_toArray, List.getElem_cons_succ, List.getElem_cons_zero]
      refine take_S (v := ?v11c) 11 rfl (by kernel_rfl) (by kernel_rfl) (by kernel_rfl) (by kernel_rfl) (fun _ _ _ h => h) hS9 (fun _ => hT9) rfl (fun w' hq => ?h11c) ?_
      case h11c => go_simp; try with_reducible rfl
      try simp only [Act.put, List.setIfInBounds_toArray, List.set_cons_zero, List.set_cons_succ, List.getElem_toArray, List.getElem_cons_succ, List.getElem_cons_zero]
      refine one_D 12 rfl (by kernel_rfl) (fun KQ hK => ?_)
      go_simp
      refine hK.out _ _ HS10.out (fun h => absurd h (by decide)) ?_
      clear hK hS9 hT9 hcell4 hfr4
      refine done_D (by kernel_rfl) ?_ _
      obtain ⟨b0, -, -, -, b4, -, -⟩ := HI.out.kb.c5
      rw [show (l ++ [(k, (⟨pl, pb, pc, es⟩ : Pk))]).length = l.length + 1 by simp] at b4
      generalize w5.setCell ⟨b, 4, none⟩ (.slice p5 (l.length + 1) c5) = W6 at *
      go_upto_region 12 with fail
      have hS : Holds [(b, 4, .slice p5 (l.length + 1) c5), (b, 0, .int .i64 n)] W6.drew := ⟨b4, b0, trivial⟩
      have HI2 := Lib.hid (HI.out.below (Below.refl _ W6).drew)
      have hz6 : W6.drew.heap.size = W6.heap.size := rfl
      have HF := Lib.hid (show RIn W6.drew (More R w W6.drew) A b n me v tell (l ++ [(k, ⟨pl, pb, pc, es⟩)]) tp tc p5 c5 from by
        have hwz := HB3.out.size
        refine HI2.out.weak (fun j hj => ?_) (fun j hj => ?_)
        · rcases hj with ⟨h, -⟩ | ⟨h1, h2⟩
          · exact .inl ⟨h, HRlt.out j h⟩
          · exact .inr ⟨Nat.le_trans hwz h1, h2⟩
        · rcases hj with ⟨h, h'⟩ | ⟨-, h⟩
          · have h9 := HX.out.size
            rw [hz6]
            omega
          · exact h)
      have HEx := Lib.hid ((Ext.of_below R HB3.out).trans (HX.out.trans (Ext.of_below _ (Below.refl _ W6).drew)))
      clear b0 b4
      refine begin_D (T := Hold0) [] (by kernel_rfl) hS (fun _ => trivial) ?_
      refine take_S (v := ?v0d) 0 rfl (by kernel_rfl) (by kernel_rfl) (by kernel_rfl) (by kernel_rfl) (fun _ _ _ h => h) hS (fun _ => trivial) rfl (fun w' hq => ?h0d) ?_
      case h0d => obtain ⟨q0, q1, -⟩ := hq; change _ = some _ at q0; change _ = some _ at q1; go_simp; try with_reducible rfl
      try simp only [Act.put, List.setIfInBounds_toArray, List.set_cons_zero, List.set_cons_succ, List.getElem_toArray, List.getElem_cons_succ, List.getElem_cons_zero]
      refine take_S (v := ?v1d) 1 rfl (by kernel_rfl) (by kernel_rfl) (by kernel_rfl) (by kernel_rfl) (fun _ _ _ h => h) hS (fun _ => trivial) rfl (fun w' hq => ?h1d) ?_
      case h1d => obtain ⟨q0, q1, -⟩ := hq; change _ = some _ at q0; change _ = some _ at q1; go_simp; try with_reducible rfl
      try simp only [Act.put, List.setIfInBounds_toArray, List.set_cons_zero, List.set_cons_succ, List.getElem_toArray, List.getElem_cons_succ, List.getElem_cons_zero]
      refine take_S (v := ?v2d) 2 rfl (by kernel_rfl) (by kernel_rfl) (by kernel_rfl) (by kernel_rfl) (fun _ _ _ h => h) hS (fun _ => trivial) rfl (fun w' hq => ?h2d) ?_
      case h2d => obtain ⟨q0, q1, -⟩ := hq; change _ = some _ at q0; change _ = some _ at q1; go_simp; try with_reducible rfl
      try simp only [Act.put, List.setIfInBounds_toArray, List.set_cons_zero, List.set_cons_succ, List.getElem_toArray, List.getElem_cons_succ, List.getElem_cons_zero]
      refine take_S (v := ?v3d) 3 rfl (by kernel_rfl) (by kernel_rfl) (by kernel_rfl) (by kernel_rfl) (fun _ _ _ h => h) hS (fun _ => trivial) rfl (fun w' hq => ?h3d) ?_
      case h3d => obtain ⟨q0, q1, -⟩ := hq; change _ = some _ at q0; change _ = some _ at q1; go_simp; try with_reducible rfl
      try simp only [Act.put, List.setIfInBounds_toArray, List.set_cons_zero, List.set_cons_succ, List.getElem_toArray, List.getElem_cons_succ, List.getElem_cons_zero]
      refine take_S (v := ?v4d) 4 rfl (by kernel_rfl) (by kernel_rfl) (by kernel_rfl) (by kernel_rfl) (fun _ _ _ h => h) hS (fun _ => trivial) rfl (fun w' hq => ?h4d) ?_
      case h4d => obtain ⟨q0, q1, -⟩ := hq; change _ = some _ at q0; change _ = some _ at q1; go_simp; try with_reducible rfl
      try simp only [Act.put, List.setIfInBounds_toArray, List.set_cons_zero, List.set_cons_succ, List.getElem_toArray, List.getElem_cons_succ, List.getElem_cons_zero]
      refine take_S (v := ?v5d) 5 rfl (by kernel_rfl) (by kernel_rfl) (by kernel_rfl) (by kernel_rfl) (fun _ _ _ h => h) hS (fun _ => trivial) rfl (fun w' hq => ?h5d) ?_
      case h5d => obtain ⟨q0, q1, -⟩ := hq; change _ = some _ at q0; change _ = some _ at q1; go_simp; try with_reducible rfl
      try simp only [Act.put, List.setIfInBounds_toArray, List.set_cons_zero, List.set_cons_succ, List.getElem_toArray, List.getElem_cons_succ, List.getElem_cons_zero]
      refine take_S (v := ?v6d) 6 rfl (by kernel_rfl) (by kernel_rfl) (by kernel_rfl) (by kernel_rfl) (fun _ _ _ h => h) hS (fun _ => trivial) rfl (fun w' hq => ?h6d) ?_
      case h6d => obtain ⟨q0, q1, -⟩ := hq; change _ = some _ at q0; change _ = some _ at q1; go_simp; try with_reducible rfl
      try simp only [Act.put, List.setIfInBounds_toArray, List.set_cons_zero, List.set_cons_succ, List.getElem_toArray, List.getElem_cons_succ, List.getElem_cons_zero]
      refine take_S (v := ?v7d) 7 rfl (by kernel_rfl) (by kernel_rfl) (by kernel_rfl) (by kernel_rfl) (fun _ _ _ h => h) hS (fun _ => trivial) rfl (fun w' hq => ?h7d) ?_
      case h7d => obtain ⟨q0, q1, -⟩ := hq; change _ = some _ at q0; change _ = some _ at q1; go_simp; try with_reducible rfl
      try simp only [Act.put, List.setIfInBounds_toArray, List.set_cons_zero, List.set_cons_succ, List.getElem_toArray, List.getElem_cons_succ, List.getElem_cons_zero]
      refine take_S (v := ?v8d) 8 rfl (by kernel_rfl) (by kernel_rfl) (by kernel_rfl) (by kernel_rfl) (fun _ _ _ h => h) hS (fun _ => trivial) rfl (fun w' hq => ?h8d) ?_
      case h8d => obtain ⟨q0, q1, -⟩ := hq; change _ = some _ at q0; change _ = some _ at q1; go_simp; try with_reducible rfl
      try simp only [Act.put, List.setIfInBounds_toArray, List.set_cons_zero, List.set_cons_succ, List.getElem_toArray, List.getElem_cons_succ, List.getElem_cons_zero]
      refine take_S (v := (.int .i64 (n / 2))) 9 rfl (by kernel_rfl) (by kernel_rfl) (by kernel_rfl) (by kernel_rfl) (fun _ _ _ h => h) hS (fun _ => trivial) rfl (fun w' hq => ?h9d) ?_
      case h9d => obtain ⟨q0, q1, -⟩ := hq; change _ = some _ at q0; change _ = some _ at q1; go_simp; (rw [Int.tdiv_eq_ediv_of_nonneg hn0]; exact IntWalk.i64_in _ (by omega))
      try simp only [Act.put, List.setIfInBounds_toArray, List.set_cons_zero, List.set_cons_succ, List.getElem_toArray, List.getElem_cons_succ, List.getElem_cons_zero]
      refine take_S (v := (.int .i64 (n / 2 + 1))) 10 rfl (by kernel_rfl) (by kernel_rfl) (by kernel_rfl) (by kernel_rfl) (fun _ _ _ h => h) hS (fun _ => trivial) rfl (fun w' hq => ?h10d) ?_
      case h10d => obtain ⟨q0, q1, -⟩ := hq; change _ = some _ at q0; change _ = some _ at q1; go_simp; exact IntWalk.i64_in _ (by omega)
      try simp only [Act.put, List.setIfInBounds_toArray, List.set_cons_zero, List.set_cons_succ, List.getElem_toArray, List.getElem_cons_succ, List.getElem_cons_zero]
      refine take_S (v := ?v11d) 11 rfl (by kernel_rfl) (by kernel_rfl) (by kernel_rfl) (by kernel_rfl) (fun _ _ _ h => h) hS (fun _ => trivial) rfl (fun w' hq => ?h11d) ?_
      case h11d => obtain ⟨q0, q1, -⟩ := hq; change _ = some _ at q0; change _ = some _ at q1; go_simp; try with_reducible rfl
      try simp only [Act.put, List.setIfInBounds_toArray, List.set_cons_zero, List.set_cons_succ, List.getElem_toArray, List.getElem_cons_succ, List.getElem_cons_zero]
      refine take_S (v := ?v12d) 12 rfl (by kernel_rfl) (by kernel_rfl) (by kernel_rfl) (by kernel_rfl) (fun _ _ _ h => h) hS (fun _ => trivial) rfl (fun w' hq => ?h12d) ?_
      case h12d => obtain ⟨q0, q1, -⟩ := hq; change _ = some _ at q0; change _ = some _ at q1; go_simp; try with_reducible rfl
      try simp only [Act.put, List.setIfInBounds_toArray, List.set_cons_zero, List.set_cons_succ, List.getElem_toArray, List.getElem_cons_succ, List.getElem_cons_zero]
      refine take_S (v := ?v13d) 13 rfl (by kernel_rfl) (by kernel_rfl) (by kernel_rfl) (by kernel_rfl) (fun _ _ _ h => h) hS (fun _ => trivial) rfl (fun w' hq => ?h13d) ?_
      case h13d => obtain ⟨q0, q1, -⟩ := hq; change _ = some _ at q0; change _ = some _ at q1; go_simp; try with_reducible rfl
      try simp only [Act.put, List.setIfInBounds_toArray, List.set_cons_zero, List.set_cons_succ, List.getElem_toArray, List.getElem_cons_succ, List.getElem_cons_zero]
      refine done_D (by kernel_rfl) ?_ _
      clear hS
      go_wp2_with fail
      go_ret2
      exact ⟨by rw [show decide ((l.length : Int) + 1 = n / 2 + 1) = ((l.length : Int) + 1 == n / 2 + 1) from rfl]; rfl, ⟨tp, tc, p5, c5, HF.out⟩, HEx.out⟩
end
end Go.Proofs.Ytgmekodfkhihiaa
