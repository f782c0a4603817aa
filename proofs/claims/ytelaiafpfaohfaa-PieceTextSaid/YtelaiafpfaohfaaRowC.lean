/-
  A row of code points of the call's own: slices.Insert and slices.Delete on it: the contracts. No condition but bounds far below what memory bears.
-/
import Derived.Test.YtelaiafpfaohfaaInsC
import Derived.Test.YtelaiafpfaohfaaReads5
import Derived.Test.YtelaiafpfaohfaaRefI
import Derived.Shelf.Slices.Delete
namespace Go.Proofs.Ytelaiafpfaohfaa
open Go.RowKit Go.Lib Go.Proofs
set_option linter.unusedVariables false
set_option linter.unusedSimpArgs false

theorem blk_setCells {t : TypeId} {g : Nat} : ∀ (vs : List Value) (o : Nat) (w : World) (cs : Array Value), Blk w g t cs → ∃ cs', Blk (w.setCells g o vs) g t cs' ∧ cs'.size = cs.size
  | [], _, w, cs, h => ⟨cs, h, rfl⟩
  | v :: r, o, w, cs, h => by
    obtain ⟨cs', h', hs⟩ := blk_setCells r (o + 1) _ _ (h.set_ o v)
    exact ⟨cs', h', by rw [hs, Array.size_setIfInBounds]⟩
theorem ext_setCells {g : Nat} {M : Nat → Prop} (hg : M g) : ∀ (vs : List Value) (o : Nat) (w0 w : World), Ext M w0 w → Ext M w0 (w.setCells g o vs)
  | [], _, _, _, h => h
  | v :: r, o, w0, w, h => ext_setCells hg r (o + 1) w0 _ (h.set1 hg)
/-- A row whose cells are known is the call's own. -/
theorem own_of_blk {w : World} {base g n c : Nat} {l : List Int} {cur : Array Value} (hB : Blk w g 29 cur) (hs : cur.size = c) (hb : base ≤ g) (hn : n ≤ c) (hc : c ≤ maxLen) (hl : l.length = n)
    (hcell : ∀ j u, (ccells l)[j]? = some u → w.cell? ⟨g, j, none⟩ = some u) : CharOwn w base (.slice (some ⟨g, 0, none⟩) n c) l := by
  subst hl
  refine ⟨by rw [ccells_len, Nat.mul_one], .inr ⟨g, c, cur, rfl, hb, hB, hn, hc, by rw [hs, Nat.mul_one], ?_⟩⟩
  rw [Nat.mul_one]
  apply List.ext_getElem?
  intro j
  rw [List.getElem?_take]
  by_cases hj : j < l.length
  · rw [if_pos hj]
    have h1 : j < (ccells l).length := by rw [ccells_len]; exact hj
    have h2 := hcell j _ (List.getElem?_eq_getElem h1)
    rw [hB.cell j] at h2
    rw [List.getElem?_eq_getElem h1, ← h2]
    simp
  · rw [if_neg hj, List.getElem?_eq_none (by rw [ccells_len]; omega)]
/-- The block of a row that is not nil. -/
theorem CharOwn.blk {w : World} {base n c g : Nat} {o : Nat} {l : List Int} (h : CharOwn w base (.slice (some ⟨g, o, none⟩) n c) l) : ∃ cur, o = 0 ∧ Blk w g 29 cur ∧ cur.size = c ∧ base ≤ g ∧ l.length ≤ c ∧ c ≤ maxLen := by
  rcases h.2 with ⟨h1, _⟩ | ⟨g', cap, cur, hv, hb, hg, h3, h4, h5, h6⟩
  · cases h1
  · injection hv with e1 e2 e3
    injection e1 with e1
    injection e1 with e1 e4 _
    subst e1; subst e3
    exact ⟨cur, e4, hg, by rw [h5, Nat.mul_one], hb, h3, h4⟩
theorem CharOwn.cells {w : World} {base n c g : Nat} {l : List Int} (h : CharOwn w base (.slice (some ⟨g, 0, none⟩) n c) l) : ∀ j u, (ccells l)[j]? = some u → w.cell? ⟨g, j, none⟩ = some u := by
  intro j u hu
  have hj : j < l.length := by have := (List.getElem?_eq_some_iff.1 hu).1; rw [ccells_len] at this; exact this
  obtain ⟨b, off, he, _, _, hc⟩ := Rd.addr (show Rd w (fun k => base ≤ k ∧ k < w.heap.size) 1 (.slice (some ⟨g, 0, none⟩) l.length c) l.length (ccells l) from by
    have h1 := CharOwn.rd h
    obtain ⟨p, c', hv⟩ := own_slice h
    injection hv with _ hn _
    rw [hn] at h1
    exact h1) (by omega)
  injection he with he
  injection he with e1 e2 _
  subst e1; subst e2
  have := hc j u hu
  rwa [Nat.zero_add] at this

/-- What a change of a row leaves: the row; nothing else that was there is turned. -/
def RowDone (w : World) (base : Nat) (v : Value) (l : List Int) (e : Ending) (w' : World) : Prop := ∃ v', e = .returned v' ∧ CharOwn w' base v' l ∧ Ext (fun j => v.ownBlock = some j) w w' ∧ (v'.ownBlock = v.ownBlock ∨ v'.ownBlock = some w.heap.size)

/-- The cells of three parts, one behind the other. -/
theorem parts_cells {w' : World} {g n m : Nat} {A B C : List Value} (hn : n ≤ A.length) (hC : C = A.take n ++ B ++ A.drop n) (hm : B.length = m)
    (h1 : ∀ j u, j < n → A[j]? = some u → w'.cell? ⟨g, j, none⟩ = some u) (h2 : ∀ j u, j < m → B[j]? = some u → w'.cell? ⟨g, n + j, none⟩ = some u) (h3 : ∀ j u, j < A.length - n → A[n + j]? = some u → w'.cell? ⟨g, n + m + j, none⟩ = some u) :
    ∀ j u, C[j]? = some u → w'.cell? ⟨g, j, none⟩ = some u := by
  intro j u hu
  have hln : (A.take n).length = n := by rw [List.length_take]; omega
  subst hC
  rcases Nat.lt_or_ge j n with hj | hj
  · rw [List.append_assoc, List.getElem?_append_left (by omega), List.getElem?_take, if_pos hj] at hu
    exact h1 j u hj hu
  · rcases Nat.lt_or_ge j (n + m) with hj2 | hj2
    · rw [List.getElem?_append_left (by rw [List.length_append]; omega), List.getElem?_append_right (by omega), hln] at hu
      have := h2 (j - n) u (by omega) hu
      rwa [show n + (j - n) = j from by omega] at this
    · have hl2 : (A.take n ++ B).length = n + m := by rw [List.length_append]; omega
      rw [List.getElem?_append_right (by omega), hl2, List.getElem?_drop] at hu
      have hjl : n + (j - (n + m)) < A.length := (List.getElem?_eq_some_iff.1 hu).1
      have := h3 (j - (n + m)) u (by omega) hu
      rwa [show n + m + (j - (n + m)) = j from by omega] at this
theorem drop_getElem (cs : List Value) (k j : Nat) : (cs.drop k)[j]? = cs[k + j]? := List.getElem?_drop

theorem row_ins {w : World} {base : Nat} {S : Nat → Prop} {v : Value} {row l : List Int} {q : Option Addr} {d k : Nat} (h : CharOwn w base v row) (hbase : base ≤ w.heap.size) (hx : CharRd w S (.slice q l.length d) l) (hnil : NilOk (.slice q l.length d)) (hS : ∀ j, S j → j < base)
    (hk : k ≤ row.length) (hlen : row.length + l.length ≤ 100000) :
    Calls Try.prog 33 #[v, .int .i64 k, .slice q l.length d] w (RowDone w base v (row.take k ++ l ++ row.drop k)) := by
  obtain ⟨p, c, rfl⟩ := own_slice h
  have hcle : row.length ≤ c ∧ c ≤ maxLen := by
    obtain ⟨_, _, _, hv, h1, h2, _⟩ := CharOwn.rd h
    injection hv with _ _ hv
    subst hv
    exact ⟨h1, h2⟩
  unfold maxLen at hcle
  by_cases hl0 : l.length = 0
  · have : l = [] := List.eq_nil_of_length_eq_zero hl0
    subst this
    have e : row.take k ++ [] ++ row.drop k = row := by rw [List.append_nil, List.take_append_drop]
    rw [e]
    have H := Lib.hid h
    obtain ⟨q2, hq2⟩ : ∃ q2, (if c = k then p else p.map (fun x => x.add k)) = q2 := ⟨_, rfl⟩
    have hkc : (k : Int) ≤ (row.length : Int) := by omega
    have hcc : (row.length : Int) ≤ (c : Int) := by omega
    clear h hx hnil e
    generalize row.length = n at *
    simp only [List.length_nil]
    go_enter Try.func33, Try.ntmps33
    go_wp2_with fail
    go_ret
    exact ⟨_, rfl, H.out, Ext.refl _ _, .inl rfl⟩
  · by_cases hkn : k = row.length
    · subst hkn
      have e : row.take row.length ++ l ++ row.drop row.length = row ++ l := by rw [List.take_length, List.drop_length, List.append_nil]
      rw [e]
      obtain ⟨vb, voff, hq, _, hSv, hvs⟩ := Rd.addr hx (by omega)
      subst hq
      by_cases hroom : row.length + l.length ≤ c
      · have hp : ∃ g, p = some ⟨g, 0, none⟩ := by
          rcases h.2 with ⟨h1, _⟩ | ⟨g, cap, cur, h1, _⟩
          · injection h1 with _ h2 h3; omega
          · injection h1 with h1; exact ⟨g, h1⟩
        obtain ⟨g, rfl⟩ := hp
        have H := Lib.hid h
        have Hvs := Lib.hid hvs
        have hcc : (row.length : Int) ≤ (c : Int) := by omega
        obtain ⟨q2, hq2⟩ : ∃ q2, (if c = row.length then (some ⟨g, 0, none⟩ : Option Addr) else some ⟨g, row.length, none⟩) = q2 := ⟨_, rfl⟩
        have hl0' : ((l.length : Int) == 0) = false := by rw [beq_eq_false_iff_ne]; omega
        obtain ⟨i0, hi, hz0, hz1, hz2⟩ := info_parts infoC
        clear h hx hnil e hvs hz0 hz2
        go_enter Try.func33, Try.ntmps33
        go_wp2_with (at_builtin; go_loud (refine wpList_append_fits _ rfl (.tmp 23) (.tmp 24) 22 rfl base 29 i0 1 Try.underlying22 hi hz1 g row.length c (ccells row) rfl H.out ⟨vb, voff, none⟩ l.length d (ccells l) rfl (by rw [ccells_len, Nat.mul_one]) (fun j u hu => by rw [Addr.add_lit]; exact Hvs.out j u hu) (ccells_one l) hroom ?_; intro w' ho hg; have HO := Lib.hid ho; have HG := Lib.hid hg; clear ho hg))
        go_ret
        exact ⟨_, rfl, by unfold CharOwn; rw [List.length_append, ccells_app]; exact HO.out, ⟨HG.out.os, HG.out.tape, HG.out.output, HG.out.size, fun j hj hn => HG.out.block j hj (fun e => hn e.symm)⟩, .inl rfl⟩
      · refine (insC_end_grow p row.length c vb voff l.length d (ccells row) (ccells l) w (by omega) hcle.1 (by omega) (by omega) (ccells_len row) (ccells_len l) (fun hp => by
            rcases h.2 with ⟨h1, h2⟩ | ⟨g, cap, cur, h1, _⟩
            · exact h2
            · rw [hp] at h1; cases h1) (fun ad had j u hu => by
            subst had
            have hj : j < row.length := by have := (List.getElem?_eq_some_iff.1 hu).1; rw [ccells_len] at this; exact this
            obtain ⟨b', off, he, _, _, hc⟩ := Rd.addr (show Rd w (fun k => base ≤ k ∧ k < w.heap.size) 1 (.slice (some ad) row.length c) row.length (ccells row) from CharOwn.rd h) (by omega)
            injection he with he
            subst he
            rw [Addr.add_lit]
            exact hc j u hu) hvs (ccells_one l)).mono ?_
        rintro e w' ⟨rfl, rfl⟩
        obtain ⟨G, hG⟩ : ∃ G, G = grownCap w (row.length + l.length) c 29 := ⟨_, rfl⟩
        have hGn : row.length + l.length ≤ G := by rw [hG]; exact grownCap_ge w _ _ _
        have hGm : G ≤ maxLen := by rw [hG]; exact grownCap_le_maxLen w _ c _ (by unfold maxLen; omega)
        rw [← hG]
        obtain ⟨ROW, hROW⟩ : ∃ ROW : Array Value, ROW = (ccells row ++ ccells l).toArray ++ Builtin.zeroCells (Value.int .i32 0).cells (G - (row.length + l.length)) := ⟨_, rfl⟩
        rw [← hROW]
        have hRs : ROW.size = G := by
          rw [hROW]
          simp [Builtin.zeroCells, Value.cells, ccells_len]
          omega
        have hNB : Blk (w.drew.alloc (.cells ROW 29)) w.heap.size 29 ROW := Blk.new w.drew _ _
        refine ⟨_, rfl, own_of_blk hNB hRs hbase hGn hGm (by simp) (fun j u hu => ?_), Ext.of_below _ ((Below.refl w.heap.size w).drew.alloc (Nat.le_refl _) _), .inr rfl⟩
        have hj : j < (ccells row ++ ccells l).length := by have := (List.getElem?_eq_some_iff.1 hu).1; rw [ccells_app] at this; exact this
        rw [hNB.cell j, hROW, Array.getElem?_append_left (by simpa using hj)]
        rw [ccells_app] at hu
        simpa using hu
    · have hkl : k < row.length := by omega
      obtain ⟨g, c', hv, hgb, hnc, hcl, hfz⟩ := own_pos h (by omega)
      injection hv with hv1 _ hv2
      subst hv1; subst hv2
      obtain ⟨vb, voff, hq, _, hSv, hvs⟩ := Rd.addr hx (by omega)
      subst hq
      have hvb : vb ≠ g := by have := hS vb hSv; omega
      obtain ⟨cur, -, hB, hcs, -, -, -⟩ := CharOwn.blk h
      have hcl' : ∀ j u, (ccells row)[j]? = some u → w.cell? ⟨g, 0 + j, none⟩ = some u := fun j u hu => by rw [Nat.zero_add]; exact hcl j u hu
      have hvs' : ∀ j u, (ccells l)[j]? = some u → w.cell? ⟨vb, voff + j, none⟩ = some u := hvs
      have hrow1 : ∀ j u, (ccells row)[j]? = some u → w.cell? ⟨g, j, none⟩ = some u := hcl
      by_cases hroom : row.length + l.length ≤ c
      · have hsh : ∃ tA kA, w.shape? vb = some (tA, kA) ∧ kA ≠ 0 := by
          have h0 := hvs' 0 (.int .i32 (l[0]'(by omega))) (by unfold ccells; rw [List.getElem?_map, List.getElem?_eq_getElem (by omega)]; rfl)
          unfold World.cell? at h0
          unfold World.shape?
          split at h0
          · rename_i cs el fr hh
            rw [hh]
            refine ⟨el, cs.size, rfl, fun hz => ?_⟩
            simp only [Option.isSome_none, Bool.false_eq_true, if_false] at h0
            rw [Array.getElem?_eq_none (by omega)] at h0
            cases h0
          · cases h0
        obtain ⟨tA, kA, hsa, hkA⟩ := hsh
        have hsb : w.shape? g = some (29, cur.size) := by unfold Blk at hB; simp [World.shape?, hB]
        refine (insC_shift g 0 row.length c k vb voff l.length d (ccells row) (ccells l) w hkl (by omega) hroom (by omega) hvb (ccells_len row) (ccells_len l) hcl' (fun j hj => by rw [Nat.zero_add, hB.cell j, Array.getElem?_eq_getElem (by omega)]; rfl) (fun j _ => hfz _) hvs' (ccells_one row) (ccells_one l) tA 29 kA cur.size hsa hkA hsb (by omega) hfz).mono ?_
        rintro e w' ⟨rfl, rfl⟩
        obtain ⟨c1, hB1, hs1⟩ := blk_setCells ((ccells row).drop k) (0 + (k + l.length)) w.drew cur hB
        obtain ⟨c2, hB2, hs2⟩ := blk_setCells (ccells l) (0 + k) _ c1 hB1
        refine ⟨_, rfl, own_of_blk hB2 (by rw [hs2, hs1, hcs]) hgb hroom (by unfold maxLen; omega) (by simp; omega) ?_, ext_setCells (M := fun j => (Value.slice (some ⟨g, 0, none⟩) row.length c).ownBlock = some j) rfl _ _ _ _ (ext_setCells (M := fun j => (Value.slice (some ⟨g, 0, none⟩) row.length c).ownBlock = some j) rfl _ _ _ _ (Ext.of_below _ (Below.refl w.heap.size w).drew)), .inl rfl⟩
        have hsome : ∀ j, j < row.length + l.length → (w.drew.cell? ⟨g, j, none⟩).isSome = true := fun j hj => by
          show (w.cell? _).isSome = true
          rw [hB.cell j, Array.getElem?_eq_getElem (by omega)]; rfl
        have hdl : ((ccells row).drop k).length = row.length - k := by rw [List.length_drop, ccells_len]
        have hs1' : ∀ j, j < row.length + l.length → ((w.drew.setCells g (0 + (k + l.length)) ((ccells row).drop k)).cell? ⟨g, j, none⟩).isSome = true := fun j hj => isSome_setCells g _ _ _ (fun i hi => hsome _ (by omega)) j (hsome j hj)
        exact parts_cells (n := k) (m := l.length) (A := ccells row) (by rw [ccells_len]; omega) (by rw [ccells_app, ccells_app, ccells_take, ccells_drop]) (ccells_len l)
          (fun j u hj hu => by
            rw [World.cell?_setCells_out _ _ _ _ _ (fun _ _ => .inl (by show j < 0 + k; omega)), World.cell?_setCells_out _ _ _ _ _ (fun _ _ => .inl (by show j < 0 + (k + l.length); omega))]
            exact hrow1 j u hu)
          (fun j u hj hu => by
            have hj' : j < (ccells l).length := (List.getElem?_eq_some_iff.1 hu).1
            have h1 := World.cell?_setCells_in g (ccells l) (0 + k) _ (fun i hi => hs1' _ (by rw [ccells_len] at hi; omega)) j hj'
            rw [show 0 + k + j = k + j from by omega] at h1
            rw [h1, ← hu, List.getElem?_eq_getElem hj'])
          (fun j u hj hu => by
            rw [World.cell?_setCells_out _ _ _ _ _ (fun _ _ => .inr (by show 0 + k + (ccells l).length ≤ k + l.length + j; rw [ccells_len]; omega))]
            have hj' : j < ((ccells row).drop k).length := by rw [hdl]; rw [ccells_len] at hj; exact hj
            have h1 := World.cell?_setCells_in g ((ccells row).drop k) (0 + (k + l.length)) w.drew (fun i hi => hsome _ (by rw [hdl] at hi; omega)) j hj'
            rw [show 0 + (k + l.length) + j = k + l.length + j from by omega] at h1
            rw [h1, ← hu, List.getElem_drop, List.getElem?_eq_getElem])
      · refine (insC_grow g 0 row.length c k vb voff l.length d (ccells row) (ccells l) w hkl (by omega) hnc (by omega) (by omega) (ccells_len row) (ccells_len l) hcl' hvs' (ccells_one row) (ccells_one l)).mono ?_
        rintro e w' ⟨rfl, rfl⟩
        obtain ⟨G, hG⟩ : ∃ G, G = grownCap w (row.length + l.length) c 29 := ⟨_, rfl⟩
        have hGn : row.length + l.length ≤ G := by rw [hG]; exact grownCap_ge w _ _ _
        have hGm : G ≤ maxLen := by rw [hG]; exact grownCap_le_maxLen w _ c _ (by unfold maxLen; omega)
        rw [← hG]
        have hdl : ((ccells row).drop k).length = row.length - k := by rw [List.length_drop, ccells_len]
        obtain ⟨ROW, hROW⟩ : ∃ ROW : Array Value, ROW = ((ccells row).take k).toArray ++ Builtin.zeroCells (Value.int .i32 0).cells (row.length + l.length - k) ++ Builtin.zeroCells (Value.int .i32 0).cells (G - (row.length + l.length)) := ⟨_, rfl⟩
        rw [← hROW]
        have hRs : ROW.size = G := by
          rw [hROW]
          simp [Builtin.zeroCells, Value.cells, ccells_len]
          omega
        have hRt : ∀ j, j < k → ROW[j]? = (ccells row)[j]? := fun j hj => by
          rw [hROW, Array.append_assoc, Array.getElem?_append_left (by simp [ccells_len]; omega)]
          simp [List.getElem?_take, hj]
        have hNB : Blk (w.alloc (.cells ROW 29)).drew w.heap.size 29 ROW := Blk.new w _ _
        obtain ⟨c1, hB1, hs1⟩ := blk_setCells (ccells l) k _ ROW hNB
        obtain ⟨c2, hB2, hs2⟩ := blk_setCells ((ccells row).drop k) (k + l.length) _ c1 (show Blk ((w.alloc (.cells ROW 29)).drew.setCells w.heap.size k (ccells l)).drew w.heap.size 29 c1 from hB1)
        have hX : Below w.heap.size w (((w.alloc (.cells ROW 29)).drew.setCells w.heap.size k (ccells l)).drew.setCells w.heap.size (k + l.length) ((ccells row).drop k)) := by
          have h1 : Ext (fun j => j = w.heap.size) w (w.alloc (.cells ROW 29)).drew := Ext.of_below _ (((Below.refl w.heap.size w).alloc (Nat.le_refl _) _).drew)
          have h2 := ext_setCells (M := fun j => j = w.heap.size) rfl (ccells l) k w _ h1
          have h3 : Ext (fun j => j = w.heap.size) w ((w.alloc (.cells ROW 29)).drew.setCells w.heap.size k (ccells l)).drew := h2.trans (Ext.of_below _ (Below.refl _ _).drew)
          exact (ext_setCells (M := fun j => j = w.heap.size) rfl ((ccells row).drop k) (k + l.length) w _ h3).new (fun j hj => Nat.le_of_eq hj.symm)
        refine ⟨_, rfl, own_of_blk hB2 (by rw [hs2, hs1, hRs]) hbase hGn hGm (by simp; omega) ?_, Ext.of_below _ hX, .inr rfl⟩
        have hsome : ∀ j, j < row.length + l.length → ((w.alloc (.cells ROW 29)).drew.cell? ⟨w.heap.size, j, none⟩).isSome = true := fun j hj => by
          rw [hNB.cell j, Array.getElem?_eq_getElem (by omega)]; rfl
        have hs1' : ∀ j, j < row.length + l.length → (((w.alloc (.cells ROW 29)).drew.setCells w.heap.size k (ccells l)).drew.cell? ⟨w.heap.size, j, none⟩).isSome = true := fun j hj => isSome_setCells w.heap.size _ _ _ (fun i hi => hsome _ (by rw [ccells_len] at hi; omega)) j (hsome j hj)
        exact parts_cells (n := k) (m := l.length) (A := ccells row) (by rw [ccells_len]; omega) (by rw [ccells_app, ccells_app, ccells_take, ccells_drop]) (ccells_len l)
          (fun j u hj hu => by
            rw [World.cell?_setCells_out _ _ _ _ _ (fun _ _ => .inl (by show j < k + l.length; omega))]
            show ((w.alloc (.cells ROW 29)).drew.setCells w.heap.size k (ccells l)).cell? _ = _
            rw [World.cell?_setCells_out _ _ _ _ _ (fun _ _ => .inl (by show j < k; omega)), hNB.cell j, hRt j hj]
            exact hu)
          (fun j u hj hu => by
            have hj' : j < (ccells l).length := (List.getElem?_eq_some_iff.1 hu).1
            rw [World.cell?_setCells_out _ _ _ _ _ (fun _ _ => .inl (by show k + j < k + l.length; omega))]
            have h1 := World.cell?_setCells_in w.heap.size (ccells l) k (w.alloc (.cells ROW 29)).drew (fun i hi => hsome _ (by rw [ccells_len] at hi; omega)) j hj'
            exact h1.trans (by rw [← hu, List.getElem?_eq_getElem hj']))
          (fun j u hj hu => by
            have hj' : j < ((ccells row).drop k).length := by rw [hdl]; rw [ccells_len] at hj; exact hj
            have h1 := World.cell?_setCells_in w.heap.size ((ccells row).drop k) (k + l.length) ((w.alloc (.cells ROW 29)).drew.setCells w.heap.size k (ccells l)).drew (fun i hi => hs1' _ (by rw [hdl] at hi; omega)) j hj'
            rw [h1, ← hu, List.getElem_drop, List.getElem?_eq_getElem])
end Go.Proofs.Ytelaiafpfaohfaa
