/-
  For every input ChangeOrder returns true, and its arguments read as they did. No condition. (Printed by wip/gen_order22row.py.)
-/
import Derived.Test.YtgmekodfkhihiaaRows
import Derived.Test.YtgmekodfkhihiaaOrderLe22
import Derived.Test.YtgmekodfkhihiaaOrderGt22
import Derived.Test.YtgmekodfkhihiaaOpen22
import Derived.Lib.SmallJoins
import Derived.Carry
namespace Go.Proofs.Ytgmekodfkhihiaa
open Go.RowKit Go.ChangeShapes Go.WideShapes Go.ChangeAt Go.Deep

theorem order_walk {w : World} {T : Nat → Prop} {v : Int} {sv : Value} {L : List Pk} (hr : PacksRd w T sv L) (hL : PksOk L) (hT : ∀ j, T j → j < w.heap.size) (hv0 : 0 ≤ v) (hv1 : v < 18446744073709551616) (hLb : L.length ≤ 1152921504606846976) :
    Calls Try.prog 4 #[sv, .int .u64 v] w fun x w' => x = .returned (.bool true) ∧ Below w.heap.size w w' := by
  obtain ⟨cs, hc, -⟩ := id hr
  obtain ⟨p, d, rfl⟩ := Rd.slice hc
  rcases Nat.lt_or_ge 7 L.length with h | h
  · exact order_gt hr hL hT hv0 hv1 rfl h hLb
  · exact order_le hr hL hT hv0 hv1 rfl h hLb

theorem u64_bounds {n : Int} (h : (Lit.int .u64 n).wf = true) : 0 ≤ n ∧ n < 18446744073709551616 := by
  simp only [Lit.wf, IntKind.min, IntKind.max, IntKind.signed, IntKind.bits, Bool.and_eq_true, decide_eq_true_eq] at h
  simp at h
  omega

theorem canRead : ∀ t ∈ [44, 28], CanRead t := by
  intro t ht
  simp only [List.mem_cons, List.not_mem_nil, or_false] at ht
  rcases ht with rfl | rfl <;> exact ⟨by kernel_rfl, of_decide_eq_true (by kernel_rfl)⟩

theorem entry_slice {H : Type} {enc : TypeId × Value → H} {W : World} {n : Nat} {v : Value} {y : DataW H × List MemPlace} (h : DataW.trod enc Try.prog W 0 (fun _ => true) true n 33 [v] = some y) : ∃ a l c, v = .slice a l c := by
  rcases open_slice_fields Try.underlying33 Try.underlying32 (by kernel_rfl) (by kernel_rfl) h with ⟨hcs, _⟩ | ⟨a, l, c, _, _, _, hcs, _⟩
  · injection hcs with hv; exact ⟨_, _, _, hv⟩
  · injection hcs with hv; exact ⟨_, _, _, hv⟩

theorem entry_bytes : Try.prog.bytesOf 32 = 48 := by kernel_rfl
theorem entries_len {H : Type} {enc : TypeId × Value → H} {W : World} {a : Option Addr} {l k : Nat} {d : DataW H} {ps : List MemPlace} (h : DataW.Trod enc Try.prog W 0 (fun _ => true) true 33 (.slice a l k) d ps) (hr : ∀ n ∈ d.weights Try.prog 33, n ≤ reachBytes) : l ≤ 1152921504606846976 := by
  obtain ⟨fuel, hf⟩ := h
  rcases open_slice_fields Try.underlying33 Try.underlying32 (by kernel_rfl) (by kernel_rfl) hf with ⟨hcs, hd⟩ | ⟨a, len, cap, m, D, Pl, hcs, _, hl, hm, hmm, hd, _⟩
  · simp only [Value.cells] at hcs
    injection hcs with hv
    injection hv with _ h2 _
    omega
  · simp only [Value.cells] at hcs
    injection hcs with hv
    injection hv with _ h2 _
    subst h2
    injection hd with hd1 _
    simp only [if_true] at hmm
    subst hmm
    have hw := hr ((l + (m - l)) * 48) (by
      rw [hd1]
      simp only [DataW.weights, Try.underlying33, List.length_map, List.length_range, entry_bytes]
      exact List.mem_cons_self)
    unfold reachBytes at hw
    omega
theorem pack_bytes : Try.prog.bytesOf 45 = 48 := by kernel_rfl
theorem open_packs {H : Type} {enc : TypeId × Value → H} {w : World} {v : Value} {d : DataW H} {ps : List MemPlace} (h : DataW.Trod enc Try.prog w 0 (fun _ => true) true 44 v d ps) (hv : ∃ a len cap, v = .slice a len cap)
    (hr : ∀ n ∈ d.weights Try.prog 44, n ≤ reachBytes) : ∃ L, PacksRd w (fun j => j < w.heap.size) v L ∧ PksOk L ∧ L.length ≤ 1152921504606846976 := by
  obtain ⟨a0, l0, c0, rfl⟩ := hv
  obtain ⟨fuel, hf⟩ := h
  rcases open_slice_fields Try.underlying44 Try.underlying45 (by kernel_rfl) (by kernel_rfl) hf with ⟨hcs, hd⟩ | ⟨a, len, cap, m, D, Pl, hcs, _, hl, hm, hmm, hd, hi⟩
  · simp only [Value.cells] at hcs
    injection hcs with hv
    rw [hv]
    exact ⟨[], ⟨[], Rd.nil _ _ _, Els.nil _ _⟩, (fun e h => by cases h), by decide⟩
  · simp only [Value.cells] at hcs
    injection hcs with hv
    rw [hv]
    simp only [if_true] at hmm
    subst hmm
    injection hd with hd1 _
    have hlen60 : len ≤ 1152921504606846976 := by
      have hw := hr ((len + (m - len)) * 48) (by
        rw [hd1]
        simp only [DataW.weights, Try.underlying44, List.length_map, List.length_range, pack_bytes]
        exact List.mem_cons_self)
      unfold reachBytes at hw
      omega
    have key : ∀ i, i < len → ∃ (e : Pk) (s : Value), w.cell? (a.add (i * 4)) = some (.int .u64 e.l) ∧ w.cell? (a.add (i * 4 + 1)) = some (.int .u64 e.b) ∧ w.cell? (a.add (i * 4 + 2)) = some (.int .u64 e.c) ∧ w.cell? (a.add (i * 4 + 3)) = some s ∧
        EntsRd w (fun j => j < w.heap.size) s e.es ∧ Fits e.es ∧ e.es.length ≤ 1152921504606846976 ∧ 0 ≤ e.b ∧ 0 ≤ e.c := by
      intro i hlt
      obtain ⟨ys, n, hDi, _, _, hfld⟩ := hi i (by omega)
      obtain ⟨v0, y0, c0, g0, t0⟩ := hfld 0 _ rfl
      obtain ⟨v1, y1, c1, g1, t1⟩ := hfld 1 _ rfl
      obtain ⟨v2, y2, c2, g2, t2⟩ := hfld 2 _ rfl
      obtain ⟨v3, y3, c3, g3, t3⟩ := hfld 3 _ rfl
      obtain ⟨x0, e0, _, _⟩ := DataW.trod_int Try.underlying28 t0
      obtain ⟨x1, e1, _, w1⟩ := DataW.trod_int Try.underlying28 t1
      obtain ⟨x2, e2, _, w2⟩ := DataW.trod_int Try.underlying28 t2
      injection e0 with e0
      injection e1 with e1
      injection e2 with e2
      subst e0; subst e1; subst e2
      obtain ⟨a3, l3, k3, rfl⟩ := entry_slice t3
      have hrb : ∀ x ∈ y3.1.weights Try.prog 33, x ≤ reachBytes := fun x hx => hr x (by
        rw [hd1]
        simp only [DataW.weights, Try.underlying44]
        refine List.mem_cons_of_mem _ (List.mem_append.2 (.inl (weights_all (d := D i) (List.mem_map.2 ⟨i, List.mem_range.2 hlt, rfl⟩) x ?_)))
        rw [hDi]
        simp only [DataW.weights, Try.underlying45]
        exact DataW.weights_mem_each (j := 3) rfl (by rw [List.getElem?_map, g3]; rfl) x hx)
      have hl3 := entries_len (d := y3.1) (ps := y3.2) ⟨n, t3⟩ hrb
      obtain ⟨es, hE, hF⟩ := open_entries (d := y3.1) (ps := y3.2) ⟨n, t3⟩ ⟨a3, l3, k3, rfl⟩ hrb
      have hlen : es.length ≤ 1152921504606846976 := by
        obtain ⟨cs, hr, -⟩ := id hE
        obtain ⟨p, d, he⟩ := Rd.slice hr
        injection he with _ he _
        rw [← he]
        exact hl3
      exact ⟨⟨x0, x1, x2, es⟩, _, c0, c1, c2, c3, hE, hF, hlen, (u64_bounds w1).1, (u64_bounds w2).1⟩
    have build : ∀ k, k ≤ len → ∃ (cs : List Value) (L : List Pk), L.length = k ∧ Els (PkR w (fun j => j < w.heap.size)) 4 cs L ∧ (∀ j u, cs[j]? = some u → w.cell? (a.add j) = some u) ∧ PksOk L := by
      intro k
      induction k with
      | zero => exact fun _ => ⟨[], [], rfl, Els.nil _ _, (fun j u h => by simp at h), (fun e h => by cases h)⟩
      | succ k ih =>
        intro hk
        obtain ⟨cs, L, hlen, hE, hc, hF⟩ := ih (by omega)
        obtain ⟨e, s, q0, q1, q2, q3, hq, hok⟩ := key k (by omega)
        refine ⟨cs ++ [.int .u64 e.l, .int .u64 e.b, .int .u64 e.c, s], L ++ [e], by simp [hlen], Els.snoc hE rfl ⟨s, rfl, hq⟩, ?_, ?_⟩
        · intro j u hu
          have hcl : cs.length = k * 4 := by rw [hE.1, hlen]
          rcases Nat.lt_or_ge j cs.length with hj | hj
          · rw [List.getElem?_append_left hj] at hu
            exact hc j u hu
          · rw [List.getElem?_append_right hj] at hu
            obtain ⟨i, rfl⟩ : ∃ i, j = k * 4 + i := ⟨j - k * 4, by omega⟩
            rw [hcl, Nat.add_sub_cancel_left] at hu
            match i, hu with
            | 0, hu => simp at hu; subst hu; exact q0
            | 1, hu => simp at hu; subst hu; exact q1
            | 2, hu => simp at hu; subst hu; exact q2
            | 3, hu => simp at hu; subst hu; exact q3
            | i + 4, hu => simp at hu
        · intro x hx
          rcases List.mem_append.1 hx with hx | hx
          · exact hF x hx
          · simp at hx; subst hx; exact hok
    obtain ⟨cs, L, hlen, hE, hc, hF⟩ := build len (Nat.le_refl _)
    refine ⟨L, ⟨cs, ⟨hE.1, some a, m, by rw [hlen], by omega, hm, fun h0 => ?_⟩, hE⟩, hF, by omega⟩
    obtain ⟨e, s, q0, _⟩ := key 0 (by omega)
    have hp := plain_addr (by simpa using q0)
    have h01 := q0
    rw [hp, add_plain] at h01
    refine ⟨a.block, a.off, by rw [← hp], lt_of_cell h01, fun j u hu => ?_⟩
    have := hc j u hu
    rw [hp, add_plain] at this
    exact this

set_option maxRecDepth 100000 in
theorem order_lifted (os : Os) (started : os.Started) (H : Type) (enc : TypeId × Value → H) :
    ReturnsInHanded {} Try.checked os 4 .any (Rows.changeOrderSpec.pre6 enc Try.prog Try.f4 Rows.changeOrderRow.domain false) (Rows.changeOrderSpec.post enc Try.prog Try.f4 false true false false) := by
  refine returnsInHanded_of_change_sized (C := Try.checked) own started (by kernel_rfl) Try.func4
    (ChangeSpec.witness6 (enc := enc) (C := Try.checked) false ⟨#[], #[.slice none 0 0, .int .u64 0], []⟩ 8 (by kernel_rfl) (by kernel_rfl) (by kernel_rfl) (by kernel_rfl)) ?_
  intro W base args ds gs before hval0 hW _ hsz0 _
  have hsz : (DataW.weightsEach Try.prog (Try.f4.params.toList ++ Rows.changeOrderSpec.plain.varTypes Try.prog) (ds ++ gs)).all (· ≤ reachBytes) = true := hsz0
  clear hsz0
  have hval : ∀ (j : Nat) t v, Try.f4.params[j]? = some t → args[j]? = some v → Value.okWide Try.prog W .any base t v := hval0
  have hW' := hW
  obtain ⟨p, q, hA0, hV, rfl, _, _⟩ := hW
  have hA : DataW.TrodAll enc Try.prog W 0 (fun _ => true) true Try.f4.params.toList args.toList ds p := hA0
  rw [Try.params4] at hA hval hsz
  have hA1 := hA
  obtain ⟨v0, v1, d0, d1, p0, p1, rfl, rfl, rfl, h0, h1⟩ := trodAll_two hA
  obtain ⟨rfl, rfl⟩ := trodVars_none hV
  obtain ⟨m1, rfl, rfl, rfl, wn⟩ := open_int Try.underlying28 (hval 1 28 v1 rfl rfl) h1
  obtain ⟨L, hP, hPK, hLb⟩ := open_packs h0 (okWide_slice Try.underlying44 (hval 0 44 v0 rfl rfl))
    (fun n hn => by simpa using List.all_eq_true.1 hsz _ (DataW.weights_mem_each (j := 0) (t := 44) rfl rfl n hn))
  clear hA0 hval0
  refine (order_walk hP hPK (fun j h => h) (u64_bounds wn).1 (u64_bounds wn).2 hLb).mono fun e W' ⟨he, hb⟩ => ?_
  subst he
  exact ⟨_, rfl, _, _, _, [], _, [], hW', trodAll_mk1 (shut_bool Try.underlying4 true), args_kept _ canRead hA1 hb (fun x hx => hW'.lt x (by simpa using hx)), rfl, hb.frame _, fun h => by cases h⟩

theorem order_holds : Rows.ChangeOrderSaid :=
  OpenClaim.holds_of_wide 4 Try.f4 rfl rfl rfl rfl rfl rfl rfl ⟨rfl, rfl, rfl, rfl, rfl⟩ rfl rfl rfl rfl rfl (by kernel_rfl) Try.func4 (by kernel_rfl)
    (of_decide_eq_true (by kernel_rfl)) (by unfold Func.isWrapper; first | (rw [if_pos (by decide +kernel)]; kernel_rfl) | (rw [if_neg (by decide +kernel)]; exact ⟨rfl, rfl⟩))
    (fun os started H enc _ => order_lifted os started H enc)
#print axioms order_holds
end Go.Proofs.Ytgmekodfkhihiaa
