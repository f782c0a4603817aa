/-
  PackCuts: the walk. Condition: the arguments can be read. (Printed by wip/gen_cuts.py.)
-/
import Derived.Test.YteijpcedggkdpaaWakesP
import Derived.Test.YteijpcedggkdpaaBetter
import Derived.WalkSmall
import Derived.Deep.DeepCutAuto
namespace Go.Proofs.Yteijpcedggkdpaa
open Go.RowKit
set_option linter.unusedSimpArgs false
set_option linter.unusedVariables false

theorem ents_take {w : World} {S : Nat → Prop} {p : Option Addr} {c k : Nat} {es x : List Ent} (h : EntsRd w S (.slice p es.length c) es) (hx : es.take k = x) : EntsRd w S (.slice p x.length c) x ∧ x.length ≤ k ∧ x.length ≤ es.length := by
  subst hx
  rw [List.length_take]
  refine ⟨?_, by omega, by omega⟩
  rcases Nat.le_total k es.length with hk | hk
  · rw [Nat.min_eq_left hk]
    exact h.front hk
  · rw [Nat.min_eq_right hk, List.take_of_length_le hk]
    exact h

theorem At_Cut' {w : World} {S : Nat → Prop} {b k : Nat} {es : List Ent} {op : Int} (hL : LogAt w S b 0 es) (ok : LogOk 0 es) (hk : k ≤ es.length) (hS : ∀ j, S j → j < w.heap.size) (hop : op = (k : Int)) :
    Calls Try.prog 18 #[.pointer (some ⟨b, 0, none⟩), .int .u64 op] w fun x w' => x = .returned (.int .i64 0) ∧ CutTo S b k (es.drop k) w w' := by
  subst hop
  have h := log_Cut hL ok hk hS
  rw [show (0 : Int) + (k : Int) = (k : Int) from by omega] at h
  exact h
/-- Both logs behind the cuts. -/
theorem two_cut {w w1 w2 w3 w4 : World} {b b2 k m : Nat} {es : List Ent} (hN1 : NewLog w b 0 es w1) (hN2 : NewLog w1 b2 0 es w2) (hC1 : CutTo (fun j => w.heap.size ≤ j ∧ j < b) b k (es.drop k) w2 w3) (hC2 : CutTo (fun j => w1.heap.size ≤ j ∧ j < b2) b2 m (es.drop m) w3 w4) :
    At w w4 b k (es.drop k) ∧ At w w4 b2 m (es.drop m) := by
  obtain ⟨-, p1, p2, p3⟩ := hN1
  obtain ⟨-, q1, q2, q3⟩ := hN2
  obtain ⟨hL, hX⟩ := hC1
  obtain ⟨hL2, hX2⟩ := hC2
  have z1 := p3.size
  have z2 := q3.size
  have z3 := hX.size
  have z4 := hX2.size
  have b1 : Below w.heap.size w w3 := Below.ext (p3.trans (q3.mono z1)) hX (by omega)
  have b2' : Below w.heap.size w w4 := Below.ext b1 hX2 (by omega)
  refine ⟨⟨⟨_, hL.ext hX2 ?_ (by omega), fun j hj => ?_⟩, p1, b2'⟩, ⟨_, hL2, More.lt z4⟩, by omega, b2'⟩
  · rintro j (h | h) _ rfl
    · omega
    · omega
  · have := More.lt z3 j hj
    omega
theorem two_ext {w w1 w2 w3 : World} {b b2 k : Nat} {es es' : List Ent} {S : Nat → Prop} (hN1 : NewLog w b 0 es w1) (hN2 : NewLog w1 b2 0 es w2) (hC1 : CutTo S b k es' w2 w3) : LogAt w3 (fun j => w1.heap.size ≤ j ∧ j < b2) b2 0 es := by
  have := hN1.2.2.1
  have := hN2.2.1
  exact hN2.1.ext hC1.2 (fun j hj _ h => by omega) (by omega)
theorem pack_Of_any {W0 w : World} {b : Nat} {last m commit : Int} {es : List Ent} (h : At W0 w b m es) (ok : LogOk m es) :
    Calls Try.prog 7 #[.int .u64 last, .int .u64 commit, .pointer (some ⟨b, 0, none⟩)] w fun x w' => (∃ a b c p n k r, x = .returned (.tuple #[packVal a b c (.slice p n k), .int .i64 r])) ∧ Below w.heap.size w w' := by
  cases hm : mayB last m commit es with
  | true => exact (pack_Of h ok hm).mono fun x w' ⟨p, c, h1, _, h2⟩ => ⟨⟨_, _, _, _, _, _, _, h1⟩, h2⟩
  | false => exact (pack_Of_arg h ok hm).mono fun x w' ⟨h1, h2⟩ => ⟨⟨_, _, _, _, _, _, _, h1⟩, h2⟩
theorem may_cut {l : Int} {k m n nk : Nat} {ek : List Ent} (hl : longB ek = false) (hl0 : l ≤ 1000) (hn : n ≤ 40) (hk : ek.length = nk) (hkn : k + nk = n) (hkm : k ≤ m) (hmn : m ≤ n) : mayB l k m ek = true := by
  unfold mayB
  simp [hl, hk]
  omega
theorem long_drop {es : List Ent} {k m : Nat} (h : longB (es.drop k) = false) (hkm : k ≤ m) : longB (es.drop m) = false := by
  unfold longB at h ⊢
  rw [List.any_eq_false] at h ⊢
  intro x hx
  refine h x ?_
  have e : es.drop m = (es.drop k).drop (m - k) := by rw [List.drop_drop]; congr 1; omega
  rw [e] at hx
  exact List.mem_of_mem_drop hx
theorem long_drop_of {es ek em : List Ent} {k m : Nat} (h1 : es.drop k = ek) (h2 : es.drop m = em) (hkm : k ≤ m) (h : longB ek = false) : longB em = false := by
  subst h1; subst h2; exact long_drop h hkm
theorem long_none {es : List Ent} {k : Nat} (h : longB (es.drop k) = true) (hn : ∀ j (hj : j < es.length), k ≤ j → longE es[j] = false) : False := by
  unfold longB at h
  rw [List.any_eq_true] at h
  obtain ⟨x, hx, hl⟩ := h
  obtain ⟨i, hi, rfl⟩ := List.getElem_of_mem hx
  rw [List.length_drop] at hi
  rw [List.getElem_drop] at hl
  rw [hn (k + i) (by omega) (by omega)] at hl
  cases hl
theorem same_cut {l : Int} {k m : Nat} {ek em : List Ent} (h : k = m → ek = em) : sameP l k m l m m ek em = decide ((k : Int) = (m : Int)) := by
  unfold sameP
  by_cases hkm : k = m
  · rw [h hkm, sameL_self, hkm]; simp
  · have : ¬ (k : Int) = (m : Int) := by omega
    simp [this]

/-- What stands in memory behind both packs. -/
structure CU (w : World) (S : Nat → Prop) (v : Value) (es ek em : List Ent) (b b2 P Q : Nat) (l : Int) (k m : Nat) (p1 p2 : Option Addr) (c1 c2 : Nat) (W : World) : Prop where
  X : Below w.heap.size w W
  kP : Blk W P 31 #[.int .u64 l, .int .u64 k, .int .u64 m, .slice p1 ek.length c1]
  kQ : Blk W Q 31 #[.int .u64 l, .int .u64 m, .int .u64 m, .slice p2 em.length c2]
  A : At w W b k ek
  B : At w W b2 m em
  eP : ∃ S, EntsRd W S (.slice p1 ek.length c1) ek
  eQ : ∃ S, EntsRd W S (.slice p2 em.length c2) em
  eV : EntsRd W S v es
theorem CU.below {w : World} {S : Nat → Prop} {v : Value} {es ek em : List Ent} {b b2 P Q : Nat} {l : Int} {k m : Nat} {p1 p2 : Option Addr} {c1 c2 : Nat} {W W' : World} (h : CU w S v es ek em b b2 P Q l k m p1 p2 c1 c2 W) (hb : Below W.heap.size W W') : CU w S v es ek em b b2 P Q l k m p1 p2 c1 c2 W' :=
  ⟨h.X.trans (hb.mono h.X.size), h.kP.below hb, h.kQ.below hb, h.A.below hb, h.B.below hb, h.eP.imp fun _ h => h.below hb, h.eQ.imp fun _ h => h.below hb, h.eV.below hb⟩

set_option maxHeartbeats 12800000 in
set_option maxRecDepth 100000 in
theorem cuts_walk {w : World} {S : Nat → Prop} {v : Value} {es0 : List Ent} {at_ behind view : Int} (h : EntsRd w S v es0) (hf : Fits es0) (a0 : 0 ≤ at_) (a1 : at_ ≤ 255) (b0 : 0 ≤ behind) (b1 : behind ≤ 255) (v0 : 0 ≤ view) (v1 : view ≤ 65535) :
    Calls Try.prog 4 #[v, .int .u8 at_, .int .u8 behind, .int .u16 view] w fun x w' => x = .returned (.bool true) ∧ Below w.heap.size w w' := by
  obtain ⟨p, c, rfl⟩ : ∃ p c, v = .slice p es0.length c := by obtain ⟨_, hr, _⟩ := h; exact Rd.slice hr
  have hlc : es0.length ≤ c := by obtain ⟨_, ⟨_, _, _, h, h1, _⟩, _⟩ := h; injection h with _ _ h; omega
  have hlc2 : c ≤ maxLen := by obtain ⟨_, ⟨_, _, _, h, _, h1, _⟩, _⟩ := h; injection h with _ _ h; omega
  unfold maxLen at hlc2
  obtain ⟨es, hx⟩ : ∃ x, es0.take 40 = x := ⟨_, rfl⟩
  obtain ⟨hr0, hx40, hxl⟩ := ents_take h hx
  have hfx : Fits es := hx ▸ hf.take 40
  have hm : (if (40 : Int) < (es0.length : Int) then (40 : Int) else (es0.length : Int)) = (es.length : Int) := by rw [← hx, List.length_take]; split <;> omega
  have hxc : (es.length : Int) ≤ (c : Int) := by omega
  have H := Lib.hid hr0
  have Hf := Lib.hid hfx
  obtain ⟨n, hn⟩ : ∃ n, es.length = n := ⟨_, rfl⟩
  have Hn := Lib.hid hn
  rw [hn] at hx40 hxl hm hxc H
  clear hx hr0 h hf hfx hn
  obtain ⟨k, hk⟩ : ∃ k : Nat, at_ % ((n : Int) + 1) = (k : Int) := ⟨(at_ % ((n : Int) + 1)).toNat, (Int.toNat_of_nonneg (Int.emod_nonneg _ (by omega))).symm⟩
  have hkn : k ≤ n := by have := Int.emod_lt_of_pos at_ (b := (n : Int) + 1) (by omega); omega
  obtain ⟨j, hj⟩ : ∃ j : Nat, behind % ((n : Int) + 1 - (k : Int)) = (j : Int) := ⟨(behind % ((n : Int) + 1 - (k : Int))).toNat, (Int.toNat_of_nonneg (Int.emod_nonneg _ (by omega))).symm⟩
  have hjd : k + j ≤ n := by have := Int.emod_lt_of_pos behind (b := (n : Int) + 1 - (k : Int)) (by omega); omega
  obtain ⟨m, hmj⟩ : ∃ m : Nat, (k : Int) + (j : Int) = (m : Int) := ⟨k + j, by push_cast; rfl⟩
  obtain ⟨l, hl⟩ : ∃ l : Int, view % 1000 = l := ⟨_, rfl⟩
  have hl0 : 0 ≤ l := by rw [← hl]; exact Int.emod_nonneg _ (by omega)
  have hl1 : l < 1000 := by rw [← hl]; exact Int.emod_lt_of_pos _ (by omega)
  have hkm : k ≤ m := by omega
  have hmn : m ≤ n := by omega
  clear hjd
  have Hk := Lib.hid hk
  have Hj := Lib.hid hj
  have Hmj := Lib.hid hmj
  have Hwm := Lib.hid (show wrap64 ((k : Int) + (j : Int)) = (m : Int) by unfold wrap64; omega)
  have H0 := Lib.hid H.out
  have Hl := Lib.hid hl
  clear hk hj hmj hl
  go_enter Try.func4, Try.ntmps4
  go_upto_region 4 with fail
  rw [Hk.out]
  go_upto_region 5 with fail
  rw [Hj.out, Hwm.out]
  go_upto_region 6 with fail
  rw [Hl.out]
  go_wp2_with fail
  refine (log_New (m := 0) H.out Hf.out (by rw [Hn.out]; omega) (by decide)).mono ?_
  rintro _ w1 ⟨b, rfl, hN⟩
  have HN1 := Lib.hid hN
  have Hok0 := Lib.hid (show LogOk 0 es from ⟨Hf.out, by rw [Hn.out]; omega, by decide, by decide⟩)
  have HE1 := Lib.hid (H.out.below hN.2.2.2)
  clear hN H
  go_wp2_with fail
  refine (log_Copy HN1.out.1 Hok0.out).mono ?_
  rintro _ w2 ⟨b2, rfl, hN⟩
  have HN2 := Lib.hid hN
  have HE2 := Lib.hid (HE1.out.below hN.2.2.2)
  clear hN HE1
  have HLA := Lib.hid (HN1.out.1.below HN2.out.2.2.2)
  have Hlt := Lib.hid (And.intro HN1.out.2.2.1 HN2.out.2.2.2.size)
  go_wp2_with fail
  refine (At_Cut' (k := k) HLA.out Hok0.out (by rw [Hn.out]; omega) (fun j hj => by have := Hlt.out; omega) rfl).mono ?_
  rintro _ w3 ⟨rfl, hC⟩
  have HC1 := Lib.hid hC
  have HLB := Lib.hid (two_ext HN1.out HN2.out hC)
  have Hz3 := Lib.hid hC.2.size
  have Hz2 := Lib.hid HN2.out.2.2.1
  clear hC
  go_wp2_with fail
  refine (At_Cut' (k := m) HLB.out Hok0.out (by rw [Hn.out]; omega) (fun j hj => by have := Hz2.out; have := Hz3.out; omega) rfl).mono ?_
  rintro _ w4 ⟨rfl, hC⟩
  have hAB := two_cut HN1.out HN2.out HC1.out hC
  have hX4 := hAB.1.2.2
  obtain ⟨ek, hek⟩ : ∃ x, es.drop k = x := ⟨_, rfl⟩
  obtain ⟨em, hem⟩ : ∃ x, es.drop m = x := ⟨_, rfl⟩
  have hlek : ek.length = n - k := by rw [← hek, List.length_drop, Hn.out]
  have hlem : em.length = n - m := by rw [← hem, List.length_drop, Hn.out]
  have okk : LogOk k ek := ⟨hek ▸ Hf.out.drop k, by omega, by omega, by omega⟩
  have okm : LogOk m em := ⟨hem ▸ Hf.out.drop m, by omega, by omega, by omega⟩
  have hee : k = m → ek = em := fun h => by rw [← hek, ← hem, h]
  have hem' : ek.drop (m - k) = em := by rw [← hek, ← hem, List.drop_drop]; congr 1; omega
  have hE4 : EntsRd w4 S (.slice p n c) es := by
    have hb : Below w.heap.size w w4 := hX4
    exact H0.out.below hb
  rw [hek, hem] at hAB
  have HA := Lib.hid hAB.1
  have HB := Lib.hid hAB.2
  have HE4 := Lib.hid hE4
  have Hokk := Lib.hid okk
  have Hokm := Lib.hid okm
  have Hek := Lib.hid hek
  have Hem := Lib.hid hem
  have Hem' := Lib.hid hem'
  have Hee := Lib.hid hee
  clear hC HN1 HN2 HLA HLB HC1 HE2 Hok0 Hlt Hz2 Hz3 hAB hE4 okk okm hek hem hem' hee hX4
  cases hlong : longB ek with
  | true =>
    have Hlong := Lib.hid hlong
    clear hlong hlek hlem
    go_wp2_with fail
    have hmay : mayB l k m ek = false := by unfold mayB; rw [Hlong.out]; simp
    refine (pack_Of_arg HA.out Hokk.out hmay).mono ?_
    rintro _ w5 ⟨rfl, hX⟩
    have HB5 := Lib.hid (HB.out.below hX)
    have HE5 := Lib.hid (HE4.out.below hX)
    clear hX HA HB HE4 hmay
    unfold packVal
    go_wp2_with fail
    have hbm := (Below.refl w5.heap.size w5).alloc (Nat.le_refl _) (.cells #[.int .u64 0, .int .u64 0, .int .u64 0, .slice none 0 0] 31)
    generalize w5.alloc (.cells #[.int .u64 0, .int .u64 0, .int .u64 0, .slice none 0 0] 31) = W5 at *
    refine (pack_Of_any (HB5.out.below hbm) Hokm.out).mono ?_
    rintro _ w6 ⟨⟨a6, b6, c6, p6, n6, k6, r6, rfl⟩, hX⟩
    have HX6 := Lib.hid ((HB5.out.below hbm).below hX).2.2
    have HE6 := Lib.hid ((HE5.out.below hbm).below hX)
    clear hX HB5 HE5 hbm
    unfold packVal
    go_wp2_with fail
    have hbm := (Below.refl w6.heap.size w6).alloc (Nat.le_refl _) (.cells #[.int .u64 a6, .int .u64 b6, .int .u64 c6, .slice p6 n6 k6] 31)
    generalize w6.alloc (.cells #[.int .u64 a6, .int .u64 b6, .int .u64 c6, .slice p6 n6 k6] 31) = W6 at *
    have HX := Lib.hid (HX6.out.trans (hbm.mono HX6.out.size))
    have HE := Lib.hid (HE6.out.below hbm)
    clear hbm HX6 HE6
    go_loopw [20] (fun i wr => ∃ q : Nat, k ≤ q ∧ q ≤ n ∧ i = .int .i64 q ∧ Hid ((∀ j (hj : j < es.length), k ≤ j → j < q → longE es[j] = false) ∧ wr = W6)) (fun i _ => n - (intOf i).toNat)
    case atStart => exact ⟨k, Nat.le_refl _, hkn, rfl, Lib.hid ⟨fun j _ h1 h2 => absurd h2 (by omega), rfl⟩⟩
    case round =>
      obtain ⟨q, hq1, hq2, rfl, hR⟩ := hrel
      obtain ⟨Hq, hw⟩ := hR.out
      subst hw
      clear hR
      have HQ := Lib.hid Hq
      clear Hq
      by_cases hlt : q < n
      · have hqe : q < es.length := by rw [Hn.out]; exact hlt
        have HE' := HE.out
        rw [← Hn.out] at HE'
        obtain ⟨cs, hr, hEl⟩ := HE'
        obtain ⟨bk, off, he, _, _, hcell⟩ := Rd.addr hr (by omega)
        subst he
        obtain ⟨s, hs, hq'⟩ := hEl.2 q es[q] (List.getElem?_eq_getElem hqe)
        obtain ⟨e0, e1, e2, e3⟩ := cells4 hcell hs
        obtain ⟨sp, sc, rfl⟩ := Rd.slice hq'
        clear hcell hs hr hEl e0 e1 e2 hq'
        by_cases hx : longE es[q] = true
        · have hx' : decide ((8192 : Int) < (es[q].cmd.length : Int)) = true := by simp [longE] at hx; simp; omega
          clear hx
          go_wp2_with fail
          refine wakes_true.mono ?_
          rintro _ w7 ⟨rfl, hX⟩
          have HX7 := Lib.hid (HX.out.trans (hX.mono HX.out.size))
          clear hX
          go_wp2_with fail
          go_ret
          exact ⟨rfl, HX7.out⟩
        · have hxf : longE es[q] = false := by simpa using hx
          have hx' : decide ((8192 : Int) < (es[q].cmd.length : Int)) = false := by simp [longE] at hx; simp; omega
          have Hxf := Lib.hid hxf
          clear hx hxf
          go_wp2_with fail
          go_roundw
          case rel =>
            refine ⟨q + 1, by omega, by omega, by go_num, Lib.hid ⟨fun j hj h1 h2 => ?_, by trivial⟩⟩
            rcases (by omega : j < q ∨ j = q) with h | rfl
            · exact HQ.out j hj h1 h
            · exact Hxf.out
          case measure => simp [intOf] <;> omega
      · obtain rfl : q = n := by omega
        exact (long_none (by rw [Hek.out]; exact Hlong.out) (fun j hj h => HQ.out j hj h (by rw [← Hn.out]; exact hj))).elim
  | false =>
    have Hlong := Lib.hid hlong
    have hk1 : ek.length ≤ 40 := by omega
    have hk2 : k + ek.length ≤ n := by omega
    have hk3 : n ≤ k + ek.length := by omega
    have hm1 : em.length ≤ 40 := by omega
    have hm2 : m + em.length ≤ n := by omega
    have hm3 : n ≤ m + em.length := by omega
    clear hlong hlek hlem
    go_wp2_with fail
    refine (pack_Of HA.out Hokk.out (may_cut Hlong.out (by omega) hx40 rfl (by omega) hkm hmn)).mono ?_
    rintro _ w5 ⟨p1, c1, rfl, ho, hX⟩
    have HA5 := Lib.hid (HA.out.below hX)
    have HB5 := Lib.hid (HB.out.below hX)
    have HE5 := Lib.hid (HE4.out.below hX)
    have HO5 := Lib.hid ho
    clear hX HA HB HE4 ho
    unfold packVal
    go_wp2_with fail
    have hbm := (Below.refl w5.heap.size w5).alloc (Nat.le_refl _) (.cells #[.int .u64 l, .int .u64 k, .int .u64 m, .slice p1 ek.length c1] 31)
    have kP := Blk.new w5 31 #[.int .u64 l, .int .u64 k, .int .u64 m, .slice p1 ek.length c1]
    generalize w5.alloc (.cells #[.int .u64 l, .int .u64 k, .int .u64 m, .slice p1 ek.length c1] 31) = W5 at *
    have HA5' := Lib.hid (HA5.out.below hbm)
    have HB5' := Lib.hid (HB5.out.below hbm)
    have HE5' := Lib.hid (HE5.out.below hbm)
    have HO5' := Lib.hid (HO5.out.below hbm)
    have KP5 := Lib.hid kP
    clear HA5 HB5 HE5 HO5 hbm kP
    generalize w5.heap.size = P at *
    refine (pack_Of HB5'.out Hokm.out (may_cut (long_drop_of Hek.out Hem.out hkm Hlong.out) (by omega) hx40 rfl (by omega) (Nat.le_refl _) hmn)).mono ?_
    rintro _ w6 ⟨p2, c2, rfl, ho, hX⟩
    have HA6 := Lib.hid (HA5'.out.below hX)
    have HB6 := Lib.hid (HB5'.out.below hX)
    have HE6 := Lib.hid (HE5'.out.below hX)
    have HO6 := Lib.hid (HO5'.out.below hX)
    have HQ6 := Lib.hid ho
    have KP6 := Lib.hid (KP5.out.below hX)
    clear hX ho KP5 HA5' HB5' HE5' HO5'
    unfold packVal
    go_upto_region 12 with fail
    have hbm := (Below.refl w6.heap.size w6).alloc (Nat.le_refl _) (.cells #[.int .u64 l, .int .u64 m, .int .u64 m, .slice p2 em.length c2] 31)
    have kQ := Blk.new w6 31 #[.int .u64 l, .int .u64 m, .int .u64 m, .slice p2 em.length c2]
    generalize w6.alloc (.cells #[.int .u64 l, .int .u64 m, .int .u64 m, .slice p2 em.length c2] 31) = W6 at *
    have HC := Lib.hid (show CU w S (.slice p n c) es ek em b b2 P w6.heap.size l k m p1 p2 c1 c2 W6 from ⟨((HA6.out.below hbm)).2.2, KP6.out.below hbm, kQ, HA6.out.below hbm, HB6.out.below hbm, ⟨_, (HO6.out.below hbm).rd⟩, ⟨_, (HQ6.out.below hbm).rd⟩, HE6.out.below hbm⟩)
    clear hbm kQ HA6 HB6 HE6 HO6 HQ6 KP6
    generalize w6.heap.size = Q at *
    go_upto_region 19 with fail
    have Q1 := Lib.hid (show IntKind.u64.wrap ((k : Int) + (ek.length : Nat)) = (n : Int) by rw [IntWalk.u64_in _ (by omega)]; omega)
    have Q2 := Lib.hid (show IntKind.u64.wrap ((m : Int) + (em.length : Nat)) = (n : Int) by rw [IntWalk.u64_in _ (by omega)]; omega)
    have hS6 : Holds [(P, 0, .int .u64 l), (P, 1, .int .u64 k), (P, 2, .int .u64 m), (P, 3, .slice p1 ek.length c1), (Q, 0, .int .u64 l), (Q, 1, .int .u64 m), (Q, 2, .int .u64 m), (Q, 3, .slice p2 em.length c2)] W6.drew := ⟨HC.out.kP.cell 0, HC.out.kP.cell 1, HC.out.kP.cell 2, HC.out.kP.cell 3, HC.out.kQ.cell 0, HC.out.kQ.cell 1, HC.out.kQ.cell 2, HC.out.kQ.cell 3, trivial⟩
    have HC6 := Lib.hid (HC.out.below (Below.refl _ W6).drew)
    clear HC
    refine begin_D (T := Hold0) [] (by kernel_rfl) hS6 (fun _ => trivial) ?_
    refine take_S (v := ?v0c) 0 rfl (by kernel_rfl) (by kernel_rfl) (by kernel_rfl) (by kernel_rfl) (fun _ _ _ h => h) hS6 (fun _ => trivial) rfl (fun w' hq => ?h0c) ?_
    case h0c => obtain ⟨hq0, hq1, hq2, hq3, hq4, hq5, hq6, hq7, -⟩ := hq; change _ = some _ at hq0; change _ = some _ at hq1; change _ = some _ at hq2; change _ = some _ at hq3; change _ = some _ at hq4; change _ = some _ at hq5; change _ = some _ at hq6; change _ = some _ at hq7; go_simp; try with_reducible rfl
    try simp only [Act.put, List.setIfInBounds_toArray, List.set_cons_zero, List.set_cons_succ, List.getElem_toArray, List.getElem_cons_succ, List.getElem_cons_zero]
    refine take_S (v := ?v1c) 1 rfl (by kernel_rfl) (by kernel_rfl) (by kernel_rfl) (by kernel_rfl) (fun _ _ _ h => h) hS6 (fun _ => trivial) rfl (fun w' hq => ?h1c) ?_
    case h1c => obtain ⟨hq0, hq1, hq2, hq3, hq4, hq5, hq6, hq7, -⟩ := hq; change _ = some _ at hq0; change _ = some _ at hq1; change _ = some _ at hq2; change _ = some _ at hq3; change _ = some _ at hq4; change _ = some _ at hq5; change _ = some _ at hq6; change _ = some _ at hq7; go_simp; try with_reducible rfl
    try simp only [Act.put, List.setIfInBounds_toArray, List.set_cons_zero, List.set_cons_succ, List.getElem_toArray, List.getElem_cons_succ, List.getElem_cons_zero]
    refine one_D 2 rfl (by kernel_rfl) (fun KQ hK => ?_)
    go_simp
    refine (pack_Better (r := false) (by omega) (by omega) (by rw [Q1.out, Q2.out]; simp [betterB])).mono ?_
    rintro x w6 ⟨rfl, hb⟩
    have hS7 := Holds.below hS6 hb
    have HC7 := Lib.hid (HC6.out.below hb)
    clear HC6
    refine hK.out _ _ hS7 (fun _ => trivial) ?_
    clear hK hS6 hb
    refine take_S (v := ?v3c) 3 rfl (by kernel_rfl) (by kernel_rfl) (by kernel_rfl) (by kernel_rfl) (fun _ _ _ h => h) hS7 (fun _ => trivial) rfl (fun w' hq => ?h3c) ?_
    case h3c => obtain ⟨hq0, hq1, hq2, hq3, hq4, hq5, hq6, hq7, -⟩ := hq; change _ = some _ at hq0; change _ = some _ at hq1; change _ = some _ at hq2; change _ = some _ at hq3; change _ = some _ at hq4; change _ = some _ at hq5; change _ = some _ at hq6; change _ = some _ at hq7; go_simp; try with_reducible rfl
    try simp only [Act.put, List.setIfInBounds_toArray, List.set_cons_zero, List.set_cons_succ, List.getElem_toArray, List.getElem_cons_succ, List.getElem_cons_zero]
    refine take_S (v := ?v4c) 4 rfl (by kernel_rfl) (by kernel_rfl) (by kernel_rfl) (by kernel_rfl) (fun _ _ _ h => h) hS7 (fun _ => trivial) rfl (fun w' hq => ?h4c) ?_
    case h4c => obtain ⟨hq0, hq1, hq2, hq3, hq4, hq5, hq6, hq7, -⟩ := hq; change _ = some _ at hq0; change _ = some _ at hq1; change _ = some _ at hq2; change _ = some _ at hq3; change _ = some _ at hq4; change _ = some _ at hq5; change _ = some _ at hq6; change _ = some _ at hq7; go_simp; try with_reducible rfl
    try simp only [Act.put, List.setIfInBounds_toArray, List.set_cons_zero, List.set_cons_succ, List.getElem_toArray, List.getElem_cons_succ, List.getElem_cons_zero]
    refine take_S (v := ?v5c) 5 rfl (by kernel_rfl) (by kernel_rfl) (by kernel_rfl) (by kernel_rfl) (fun _ _ _ h => h) hS7 (fun _ => trivial) rfl (fun w' hq => ?h5c) ?_
    case h5c => obtain ⟨hq0, hq1, hq2, hq3, hq4, hq5, hq6, hq7, -⟩ := hq; change _ = some _ at hq0; change _ = some _ at hq1; change _ = some _ at hq2; change _ = some _ at hq3; change _ = some _ at hq4; change _ = some _ at hq5; change _ = some _ at hq6; change _ = some _ at hq7; go_simp; try with_reducible rfl
    try simp only [Act.put, List.setIfInBounds_toArray, List.set_cons_zero, List.set_cons_succ, List.getElem_toArray, List.getElem_cons_succ, List.getElem_cons_zero]
    refine one_D 6 rfl (by kernel_rfl) (fun KQ hK => ?_)
    go_simp
    refine (pack_Better (r := false) (by omega) (by omega) (by rw [Q1.out, Q2.out]; simp [betterB])).mono ?_
    rintro x w7 ⟨rfl, hb⟩
    have hS8 := Holds.below hS7 hb
    have HC8 := Lib.hid (HC7.out.below hb)
    clear HC7
    refine hK.out _ _ hS8 (fun _ => trivial) ?_
    clear hK hS7 hb
    refine take_S (v := ?v7c) 7 rfl (by kernel_rfl) (by kernel_rfl) (by kernel_rfl) (by kernel_rfl) (fun _ _ _ h => h) hS8 (fun _ => trivial) rfl (fun w' hq => ?h7c) ?_
    case h7c => obtain ⟨hq0, hq1, hq2, hq3, hq4, hq5, hq6, hq7, -⟩ := hq; change _ = some _ at hq0; change _ = some _ at hq1; change _ = some _ at hq2; change _ = some _ at hq3; change _ = some _ at hq4; change _ = some _ at hq5; change _ = some _ at hq6; change _ = some _ at hq7; go_simp; try with_reducible rfl
    try simp only [Act.put, List.setIfInBounds_toArray, List.set_cons_zero, List.set_cons_succ, List.getElem_toArray, List.getElem_cons_succ, List.getElem_cons_zero]
    refine take_S (v := ?v8c) 8 rfl (by kernel_rfl) (by kernel_rfl) (by kernel_rfl) (by kernel_rfl) (fun _ _ _ h => h) hS8 (fun _ => trivial) rfl (fun w' hq => ?h8c) ?_
    case h8c => obtain ⟨hq0, hq1, hq2, hq3, hq4, hq5, hq6, hq7, -⟩ := hq; change _ = some _ at hq0; change _ = some _ at hq1; change _ = some _ at hq2; change _ = some _ at hq3; change _ = some _ at hq4; change _ = some _ at hq5; change _ = some _ at hq6; change _ = some _ at hq7; go_simp; try with_reducible rfl
    try simp only [Act.put, List.setIfInBounds_toArray, List.set_cons_zero, List.set_cons_succ, List.getElem_toArray, List.getElem_cons_succ, List.getElem_cons_zero]
    refine take_S (v := ?v9c) 9 rfl (by kernel_rfl) (by kernel_rfl) (by kernel_rfl) (by kernel_rfl) (fun _ _ _ h => h) hS8 (fun _ => trivial) rfl (fun w' hq => ?h9c) ?_
    case h9c => obtain ⟨hq0, hq1, hq2, hq3, hq4, hq5, hq6, hq7, -⟩ := hq; change _ = some _ at hq0; change _ = some _ at hq1; change _ = some _ at hq2; change _ = some _ at hq3; change _ = some _ at hq4; change _ = some _ at hq5; change _ = some _ at hq6; change _ = some _ at hq7; go_simp; try with_reducible rfl
    try simp only [Act.put, List.setIfInBounds_toArray, List.set_cons_zero, List.set_cons_succ, List.getElem_toArray, List.getElem_cons_succ, List.getElem_cons_zero]
    refine take_S (v := ?v11c) 11 rfl (by kernel_rfl) (by kernel_rfl) (by kernel_rfl) (by kernel_rfl) (fun _ _ _ h => h) hS8 (fun _ => trivial) rfl (fun w' hq => ?h11c) ?_
    case h11c => obtain ⟨hq0, hq1, hq2, hq3, hq4, hq5, hq6, hq7, -⟩ := hq; change _ = some _ at hq0; change _ = some _ at hq1; change _ = some _ at hq2; change _ = some _ at hq3; change _ = some _ at hq4; change _ = some _ at hq5; change _ = some _ at hq6; change _ = some _ at hq7; go_simp; try with_reducible rfl
    try simp only [Act.put, List.setIfInBounds_toArray, List.set_cons_zero, List.set_cons_succ, List.getElem_toArray, List.getElem_cons_succ, List.getElem_cons_zero]
    refine one_D 10 rfl (by kernel_rfl) (fun KQ hK => ?_)
    go_simp
    refine (pack_Op (a := l) (b := (k : Int)) (c := (m : Int)) (p := p1) (n := ek.length) (k := c1) (by omega)).mono ?_
    rintro x w8 ⟨rfl, hb⟩
    rw [Q1.out]
    have hS9 := Holds.below hS8 hb
    have HC9 := Lib.hid (HC8.out.below hb)
    clear HC8
    refine hK.out _ _ hS9 (fun _ => trivial) ?_
    clear hK hS8 hb
    refine one_D 12 rfl (by kernel_rfl) (fun KQ hK => ?_)
    go_simp
    refine (pack_Op (a := l) (b := (m : Int)) (c := (m : Int)) (p := p2) (n := em.length) (k := c2) (by omega)).mono ?_
    rintro x w9 ⟨rfl, hb⟩
    rw [Q2.out]
    have hS10 := Holds.below hS9 hb
    have HC10 := Lib.hid (HC9.out.below hb)
    clear HC9
    refine hK.out _ _ hS10 (fun _ => trivial) ?_
    clear hK hS9 hb
    refine take_S (v := (.bool false)) 13 rfl (by kernel_rfl) (by kernel_rfl) (by kernel_rfl) (by kernel_rfl) (fun _ _ _ h => h) hS10 (fun _ => trivial) rfl (fun w' hq => ?h13c) ?_
    case h13c => go_simp; first | rfl | (simp; done) | (simp; rfl) | skip
    try simp only [Act.put, List.setIfInBounds_toArray, List.set_cons_zero, List.set_cons_succ, List.getElem_toArray, List.getElem_cons_succ, List.getElem_cons_zero]
    refine take_S (v := ?v14c) 14 rfl (by kernel_rfl) (by kernel_rfl) (by kernel_rfl) (by kernel_rfl) (fun _ _ _ h => h) hS10 (fun _ => trivial) rfl (fun w' hq => ?h14c) ?_
    case h14c => obtain ⟨hq0, hq1, hq2, hq3, hq4, hq5, hq6, hq7, -⟩ := hq; change _ = some _ at hq0; change _ = some _ at hq1; change _ = some _ at hq2; change _ = some _ at hq3; change _ = some _ at hq4; change _ = some _ at hq5; change _ = some _ at hq6; change _ = some _ at hq7; go_simp; try with_reducible rfl
    try simp only [Act.put, List.setIfInBounds_toArray, List.set_cons_zero, List.set_cons_succ, List.getElem_toArray, List.getElem_cons_succ, List.getElem_cons_zero]
    refine take_S (v := ?v15c) 15 rfl (by kernel_rfl) (by kernel_rfl) (by kernel_rfl) (by kernel_rfl) (fun _ _ _ h => h) hS10 (fun _ => trivial) rfl (fun w' hq => ?h15c) ?_
    case h15c => obtain ⟨hq0, hq1, hq2, hq3, hq4, hq5, hq6, hq7, -⟩ := hq; change _ = some _ at hq0; change _ = some _ at hq1; change _ = some _ at hq2; change _ = some _ at hq3; change _ = some _ at hq4; change _ = some _ at hq5; change _ = some _ at hq6; change _ = some _ at hq7; go_simp; try with_reducible rfl
    try simp only [Act.put, List.setIfInBounds_toArray, List.set_cons_zero, List.set_cons_succ, List.getElem_toArray, List.getElem_cons_succ, List.getElem_cons_zero]
    refine take_S (v := ?v16c) 16 rfl (by kernel_rfl) (by kernel_rfl) (by kernel_rfl) (by kernel_rfl) (fun _ _ _ h => h) hS10 (fun _ => trivial) rfl (fun w' hq => ?h16c) ?_
    case h16c => obtain ⟨hq0, hq1, hq2, hq3, hq4, hq5, hq6, hq7, -⟩ := hq; change _ = some _ at hq0; change _ = some _ at hq1; change _ = some _ at hq2; change _ = some _ at hq3; change _ = some _ at hq4; change _ = some _ at hq5; change _ = some _ at hq6; change _ = some _ at hq7; go_simp; try with_reducible rfl
    try simp only [Act.put, List.setIfInBounds_toArray, List.set_cons_zero, List.set_cons_succ, List.getElem_toArray, List.getElem_cons_succ, List.getElem_cons_zero]
    refine take_S (v := ?v17c) 17 rfl (by kernel_rfl) (by kernel_rfl) (by kernel_rfl) (by kernel_rfl) (fun _ _ _ h => h) hS10 (fun _ => trivial) rfl (fun w' hq => ?h17c) ?_
    case h17c => obtain ⟨hq0, hq1, hq2, hq3, hq4, hq5, hq6, hq7, -⟩ := hq; change _ = some _ at hq0; change _ = some _ at hq1; change _ = some _ at hq2; change _ = some _ at hq3; change _ = some _ at hq4; change _ = some _ at hq5; change _ = some _ at hq6; change _ = some _ at hq7; go_simp; try with_reducible rfl
    try simp only [Act.put, List.setIfInBounds_toArray, List.set_cons_zero, List.set_cons_succ, List.getElem_toArray, List.getElem_cons_succ, List.getElem_cons_zero]
    refine take_S (v := ?v19c) 19 rfl (by kernel_rfl) (by kernel_rfl) (by kernel_rfl) (by kernel_rfl) (fun _ _ _ h => h) hS10 (fun _ => trivial) rfl (fun w' hq => ?h19c) ?_
    case h19c => obtain ⟨hq0, hq1, hq2, hq3, hq4, hq5, hq6, hq7, -⟩ := hq; change _ = some _ at hq0; change _ = some _ at hq1; change _ = some _ at hq2; change _ = some _ at hq3; change _ = some _ at hq4; change _ = some _ at hq5; change _ = some _ at hq6; change _ = some _ at hq7; go_simp; try with_reducible rfl
    try simp only [Act.put, List.setIfInBounds_toArray, List.set_cons_zero, List.set_cons_succ, List.getElem_toArray, List.getElem_cons_succ, List.getElem_cons_zero]
    refine take_S (v := ?v20c) 20 rfl (by kernel_rfl) (by kernel_rfl) (by kernel_rfl) (by kernel_rfl) (fun _ _ _ h => h) hS10 (fun _ => trivial) rfl (fun w' hq => ?h20c) ?_
    case h20c => obtain ⟨hq0, hq1, hq2, hq3, hq4, hq5, hq6, hq7, -⟩ := hq; change _ = some _ at hq0; change _ = some _ at hq1; change _ = some _ at hq2; change _ = some _ at hq3; change _ = some _ at hq4; change _ = some _ at hq5; change _ = some _ at hq6; change _ = some _ at hq7; go_simp; try with_reducible rfl
    try simp only [Act.put, List.setIfInBounds_toArray, List.set_cons_zero, List.set_cons_succ, List.getElem_toArray, List.getElem_cons_succ, List.getElem_cons_zero]
    refine take_S (v := (.bool (decide ((k : Int) = (m : Int))))) 21 rfl (by kernel_rfl) (by kernel_rfl) (by kernel_rfl) (by kernel_rfl) (fun _ _ _ h => h) hS10 (fun _ => trivial) rfl (fun w' hq => ?h21c) ?_
    case h21c => go_simp; first | rfl | (simp; done) | (simp; rfl) | skip
    try simp only [Act.put, List.setIfInBounds_toArray, List.set_cons_zero, List.set_cons_succ, List.getElem_toArray, List.getElem_cons_succ, List.getElem_cons_zero]
    refine one_D 18 rfl (by kernel_rfl) (fun KQ hK => ?_)
    go_simp
    refine (pack_Same (a1 := l) (b1 := (k : Int)) (c1 := (m : Int)) (a2 := l) (b2 := (m : Int)) (c2 := (m : Int)) HC10.out.eP.choose_spec HC10.out.eQ.choose_spec (by omega)).mono ?_
    rintro x w10 ⟨rfl, hb⟩
    rw [same_cut Hee.out]
    have hS11 := Holds.below hS10 hb
    have HC11 := Lib.hid (HC10.out.below hb)
    clear HC10
    refine hK.out _ _ hS11 (fun _ => trivial) ?_
    clear hK hS10 hb
    refine take_S (v := (.bool false)) 22 rfl (by kernel_rfl) (by kernel_rfl) (by kernel_rfl) (by kernel_rfl) (fun _ _ _ h => h) hS11 (fun _ => trivial) rfl (fun w' hq => ?h22c) ?_
    case h22c => go_simp; first | rfl | (simp; done) | (simp; rfl) | skip
    try simp only [Act.put, List.setIfInBounds_toArray, List.set_cons_zero, List.set_cons_succ, List.getElem_toArray, List.getElem_cons_succ, List.getElem_cons_zero]
    refine take_S (v := ?v23c) 23 rfl (by kernel_rfl) (by kernel_rfl) (by kernel_rfl) (by kernel_rfl) (fun _ _ _ h => h) hS11 (fun _ => trivial) rfl (fun w' hq => ?h23c) ?_
    case h23c => obtain ⟨hq0, hq1, hq2, hq3, hq4, hq5, hq6, hq7, -⟩ := hq; change _ = some _ at hq0; change _ = some _ at hq1; change _ = some _ at hq2; change _ = some _ at hq3; change _ = some _ at hq4; change _ = some _ at hq5; change _ = some _ at hq6; change _ = some _ at hq7; go_simp; try with_reducible rfl
    try simp only [Act.put, List.setIfInBounds_toArray, List.set_cons_zero, List.set_cons_succ, List.getElem_toArray, List.getElem_cons_succ, List.getElem_cons_zero]
    refine done_D (by kernel_rfl) ?_ _
    clear hS11
    obtain ⟨x0, x1, x2, x3, y0, y1, y2, y3, -⟩ := HC11.out.kQ.c4
    go_upto_region 23 with fail
    have hbm := (Below.refl w10.heap.size w10).alloc (Nat.le_refl _) (.cells #[.int .u64 (l + 1), .int .u64 m, .int .u64 m, .slice p2 em.length c2] 31)
    have kL := Blk.new w10 31 #[.int .u64 (l + 1), .int .u64 m, .int .u64 m, .slice p2 em.length c2]
    clear x0 x1 x2 x3 y0 y1 y2 y3
    generalize w10.alloc (.cells #[.int .u64 (l + 1), .int .u64 m, .int .u64 m, .slice p2 em.length c2] 31) = W11 at *
    have HC12 := Lib.hid (HC11.out.below hbm)
    have KL12 := Lib.hid kL
    clear HC11 hbm kL
    generalize w10.heap.size = L at *
    obtain ⟨x0, x1, x2, x3, -⟩ := HC12.out.kP.c4
    obtain ⟨y0, y1, y2, y3, -⟩ := KL12.out.c4
    go_wp2_with fail
    refine (pack_Better (r := true) (a1 := l + 1) (b1 := (m : Int)) (c1 := (m : Int)) (a2 := l) (b2 := (k : Int)) (c2 := (m : Int)) (p1 := p2) (n1 := em.length) (k1 := c2) (p2 := p1) (n2 := ek.length) (k2 := c1) (by omega) (by omega) (by rw [Q1.out, Q2.out]; simp [betterB]; omega)).mono ?_
    rintro x w12 ⟨rfl, hb⟩
    have HC13 := Lib.hid (HC12.out.below hb)
    have KL13 := Lib.hid (KL12.out.below hb)
    clear HC12 KL12 hb x0 x1 x2 x3 y0 y1 y2 y3
    obtain ⟨x0, x1, x2, x3, -⟩ := HC13.out.kP.c4
    obtain ⟨y0, y1, y2, y3, -⟩ := KL13.out.c4
    go_wp2_with fail
    refine (pack_Better (r := false) (a2 := l + 1) (b2 := (m : Int)) (c2 := (m : Int)) (a1 := l) (b1 := (k : Int)) (c1 := (m : Int)) (p2 := p2) (n2 := em.length) (k2 := c2) (p1 := p1) (n1 := ek.length) (k1 := c1) (by omega) (by omega) (by rw [Q1.out, Q2.out]; simp [betterB]; omega)).mono ?_
    rintro x w13 ⟨rfl, hb⟩
    have HC14 := Lib.hid (HC13.out.below hb)
    have KL14 := Lib.hid (KL13.out.below hb)
    clear HC13 KL13 hb x0 x1 x2 x3 y0 y1 y2 y3
    obtain ⟨x0, x1, x2, x3, -⟩ := HC14.out.kP.c4
    obtain ⟨y0, y1, y2, y3, -⟩ := KL14.out.c4
    go_upto_if 155 with fail
    go_cut [22] (fun lv wx => Hid (CU w S (.slice p n c) es ek em b b2 P Q l k m p1 p2 c1 c2 wx))
    case first =>
      by_cases he : 0 < ek.length
      · have he' : decide ((0 : Int) < (ek.length : Int)) = true := by simpa using he
        obtain ⟨d, hd⟩ : ∃ d : Nat, (ek.length : Int) - 1 = (d : Int) := ⟨ek.length - 1, by omega⟩
        have hdc : ek.length ≤ c1 := by obtain ⟨_, _, ⟨_, _, _, h, h1, _⟩, _⟩ := HC14.out.eP; injection h with _ _ h; omega
        have hdk : d ≤ c1 := by omega
        have Q3 := Lib.hid (show IntKind.u64.wrap ((k : Int) + (d : Nat)) = (n : Int) - 1 by rw [IntWalk.u64_in _ (by omega)]; omega)
        have hd41 : d ≤ 41 := by omega
        go_upto_region 28 with fail
        have hbm := (Below.refl w13.heap.size w13).alloc (Nat.le_refl _) (.cells #[.int .u64 l, .int .u64 k, .int .u64 m, .slice p1 d c1] 31)
        have kZ := Blk.new w13 31 #[.int .u64 l, .int .u64 k, .int .u64 m, .slice p1 d c1]
        clear x0 x1 x2 x3 y0 y1 y2 y3
        generalize w13.alloc (.cells #[.int .u64 l, .int .u64 k, .int .u64 m, .slice p1 d c1] 31) = W14 at *
        have HC15 := Lib.hid (HC14.out.below hbm)
        have KL15 := Lib.hid (KL14.out.below hbm)
        have KZ15 := Lib.hid kZ
        clear HC14 KL14 hbm kZ
        generalize w13.heap.size = Z at *
        obtain ⟨x0, x1, x2, x3, -⟩ := HC15.out.kP.c4
        obtain ⟨y0, y1, y2, y3, -⟩ := KL15.out.c4
        obtain ⟨z0, z1, z2, z3, -⟩ := KZ15.out.c4
        go_wp2_with fail
        refine (pack_Better (r := false) (a1 := l) (b1 := (k : Int)) (c1 := (m : Int)) (a2 := l) (b2 := (k : Int)) (c2 := (m : Int)) (p1 := p1) (n1 := d) (k1 := c1) (p2 := p1) (n2 := ek.length) (k2 := c1) (by omega) (by omega) (by rw [Q1.out, Q3.out]; simp [betterB]; omega)).mono ?_
        rintro x w15 ⟨rfl, hb⟩
        have HC16 := Lib.hid (HC15.out.below hb)
        have KL16 := Lib.hid (KL15.out.below hb)
        have KZ16 := Lib.hid (KZ15.out.below hb)
        clear HC15 KL15 KZ15 hb x0 x1 x2 x3 y0 y1 y2 y3 z0 z1 z2 z3
        obtain ⟨x0, x1, x2, x3, -⟩ := HC16.out.kP.c4
        obtain ⟨y0, y1, y2, y3, -⟩ := KL16.out.c4
        obtain ⟨z0, z1, z2, z3, -⟩ := KZ16.out.c4
        go_wp2_with fail
        refine (pack_Better (r := true) (a2 := l) (b2 := (k : Int)) (c2 := (m : Int)) (a1 := l) (b1 := (k : Int)) (c1 := (m : Int)) (p2 := p1) (n2 := d) (k2 := c1) (p1 := p1) (n1 := ek.length) (k1 := c1) (by omega) (by omega) (by rw [Q1.out, Q3.out]; simp [betterB]; omega)).mono ?_
        rintro x w16 ⟨rfl, hb⟩
        have HC17 := Lib.hid (HC16.out.below hb)
        have KL17 := Lib.hid (KL16.out.below hb)
        have KZ17 := Lib.hid (KZ16.out.below hb)
        clear HC16 KL16 KZ16 hb x0 x1 x2 x3 y0 y1 y2 y3 z0 z1 z2 z3
        obtain ⟨x0, x1, x2, x3, -⟩ := HC17.out.kP.c4
        obtain ⟨y0, y1, y2, y3, -⟩ := KL17.out.c4
        obtain ⟨z0, z1, z2, z3, -⟩ := KZ17.out.c4
        go_wp2_with fail
        refine (pack_Better (r := true) (a1 := l + 1) (b1 := (m : Int)) (c1 := (m : Int)) (a2 := l) (b2 := (k : Int)) (c2 := (m : Int)) (p1 := p2) (n1 := em.length) (k1 := c2) (p2 := p1) (n2 := d) (k2 := c1) (by omega) (by omega) (by rw [Q2.out, Q3.out]; simp [betterB]; omega)).mono ?_
        rintro x w17 ⟨rfl, hb⟩
        have HC18 := Lib.hid (HC17.out.below hb)
        clear HC17 KL17 KZ17 hb x0 x1 x2 x3 y0 y1 y2 y3 z0 z1 z2 z3
        go_wp2_with fail
        go_meet
        case rel => exact HC18
      · have he' : decide ((0 : Int) < (ek.length : Int)) = false := by simpa using he
        go_wp2_with fail
        go_meet
        case rel => exact HC14
    case rest =>
      have HC15 := hcut
      clear hcut x0 x1 x2 x3 y0 y1 y2 y3 HC14 KL14
      have hlem := Lib.hid (show m - k ≤ ek.length by omega)
      obtain ⟨x0, x1, x2, x3, -⟩ := HC15.out.kP.c4
      obtain ⟨y0, y1, y2, y3, -⟩ := HC15.out.kQ.c4
      go_wp2_with fail
      refine (pack_Join (K := 0) (M := (m : Int)) (a := l) (b := (m : Int)) (c := (m : Int)) HC15.out.A Hokk.out HC15.out.eQ.choose_spec Hokm.out.fits (may_cut (long_drop_of Hek.out Hem.out hkm Hlong.out) (by omega) hx40 rfl (by omega) (Nat.le_refl _) hmn) (by omega) (by omega) (by omega) (.inr rfl) (Nat.zero_le _) (by omega) (by omega)).mono ?_
      rintro _ w15 ⟨g1, rfl, hA1, hg1, hX⟩
      rw [List.drop_zero] at hA1
      have HC16 := Lib.hid (HC15.out.below hX)
      have HA16 := Lib.hid hA1
      clear HC15 hA1 hX x0 x1 x2 x3 y0 y1 y2 y3
      obtain ⟨x0, x1, x2, x3, -⟩ := HC16.out.kP.c4
      go_wp2_with fail
      refine (pack_Join (K := m - k) (M := (m : Int)) (a := l) (b := (k : Int)) (c := (m : Int)) HC16.out.B Hokm.out HC16.out.eP.choose_spec Hokk.out.fits (may_cut Hlong.out (by omega) hx40 rfl (by omega) hkm hmn) (by omega) (by omega) (by omega) (.inl rfl) hlem.out (by omega) (by omega)).mono ?_
      rintro _ w16 ⟨g2, rfl, hA2, hg2, hX⟩
      rw [Hem'.out] at hA2
      have HC17 := Lib.hid (HC16.out.below hX)
      have HA17 := Lib.hid (HA16.out.below hX)
      have HB17 := Lib.hid hA2
      clear HC16 HA16 hA2 hX hg1 hg2 x0 x1 x2 x3
      go_wp2_with fail
      refine (At_Base HA17.out).mono ?_
      rintro _ _ ⟨rfl, rfl⟩
      go_wp2_with fail
      refine (At_From' HA17.out Hokm.out rfl).mono ?_
      rintro _ w18 ⟨p5, c5, rfl, ho5, hX⟩
      have HC18 := Lib.hid (HC17.out.below hX)
      have HA18 := Lib.hid (HA17.out.below hX)
      have HB18 := Lib.hid (HB17.out.below hX)
      have HU18 := Lib.hid ho5
      clear HC17 HA17 HB17 ho5 hX
      go_wp2_with fail
      refine (At_Base HB18.out).mono ?_
      rintro _ _ ⟨rfl, rfl⟩
      go_wp2_with fail
      refine (At_From' HB18.out Hokm.out rfl).mono ?_
      rintro _ w19 ⟨p6, c6, rfl, ho6, hX⟩
      have HC19 := Lib.hid (HC18.out.below hX)
      have HA19 := Lib.hid (HA18.out.below hX)
      have HB19 := Lib.hid (HB18.out.below hX)
      have HU19 := Lib.hid (HU18.out.below hX)
      have HV19 := Lib.hid ho6
      clear HC18 HA18 HB18 HU18 ho6 hX
      go_wp2_with fail
      refine (At_Base HA19.out).mono ?_
      rintro _ _ ⟨rfl, rfl⟩
      go_wp2_with fail
      refine (At_Base HB19.out).mono ?_
      rintro _ _ ⟨rfl, rfl⟩
      have hmc : m ≤ c := by omega
      have Hcut := Lib.hid (show ∀ W, EntsRd W S (.slice p n c) es → EntsRd W S (.slice (if c = m then p else p.map (·.add (m * 4))) (n - m) (c - m)) em from fun W h => by
        rw [← Hn.out] at h ⊢
        rw [← Hem.out]
        exact h.cut (by rw [Hn.out]; exact hmn))
      by_cases hcm : c = m
      · subst hcm
        have Hcut' := Lib.hid (show ∀ W, EntsRd W S (.slice p n c) es → EntsRd W S (.slice p (n - c) 0) em from fun W h => by have h := Hcut.out W h; rw [if_pos rfl, Nat.sub_self] at h; exact h)
        clear Hcut
        go_wp2_with fail
        refine (ref_All HU19.out.rd (Hcut'.out _ HC19.out.eV) (by omega)).mono ?_
        rintro _ w20 ⟨rfl, hX⟩
        have HC20 := Lib.hid (HC19.out.below hX)
        have HV20 := Lib.hid (HV19.out.below hX)
        clear hX HC19 HV19 HU19 HA19 HB19
        go_wp2_with fail
        refine (ref_All HV20.out.rd (Hcut'.out _ HC20.out.eV) (by omega)).mono ?_
        rintro _ w21 ⟨rfl, hX⟩
        have HX21 := Lib.hid (HC20.out.below hX).X
        clear hX HC20 HV20
        go_wp2_with fail
        refine wakes_true.mono ?_
        rintro _ w22 ⟨rfl, hX⟩
        have HX22 := Lib.hid (HX21.out.trans (hX.mono HX21.out.size))
        clear hX HX21
        go_wp2_with fail
        go_ret
        exact ⟨rfl, HX22.out⟩
      · have Hcut' := Lib.hid (show ∀ W, EntsRd W S (.slice p n c) es → EntsRd W S (.slice (p.map (·.add (m * 4))) (n - m) (c - m)) em from fun W h => by have h := Hcut.out W h; rw [if_neg hcm] at h; exact h)
        clear Hcut
        go_wp2_with fail
        refine (ref_All HU19.out.rd (Hcut'.out _ HC19.out.eV) (by omega)).mono ?_
        rintro _ w20 ⟨rfl, hX⟩
        have HC20 := Lib.hid (HC19.out.below hX)
        have HV20 := Lib.hid (HV19.out.below hX)
        clear hX HC19 HV19 HU19 HA19 HB19
        go_wp2_with fail
        refine (ref_All HV20.out.rd (Hcut'.out _ HC20.out.eV) (by omega)).mono ?_
        rintro _ w21 ⟨rfl, hX⟩
        have HX21 := Lib.hid (HC20.out.below hX).X
        clear hX HC20 HV20
        go_wp2_with fail
        refine wakes_true.mono ?_
        rintro _ w22 ⟨rfl, hX⟩
        have HX22 := Lib.hid (HX21.out.trans (hX.mono HX21.out.size))
        clear hX HX21
        go_wp2_with fail
        go_ret
        exact ⟨rfl, HX22.out⟩
end Go.Proofs.Yteijpcedggkdpaa
