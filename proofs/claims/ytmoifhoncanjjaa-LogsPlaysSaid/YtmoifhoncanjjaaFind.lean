/-
  (*logs.Log).Find: the contract: the last entry of that client and number. Condition: a log in bounds.
-/
import Derived.Test.YtmoifhoncanjjaaBack
namespace Go.Proofs.Ytmoifhoncanjjaa
open Go.RowKit Go.Shelf

attribute [local go_sem] Oper.semAt_some

/-- One more than the last place below k at which p holds; 0 if there is none. -/
def lastN (p : Nat → Bool) : Nat → Nat
  | 0 => 0
  | k + 1 => if p k then k + 1 else lastN p k
theorem lastN_of_none {p : Nat → Bool} : ∀ {n : Nat}, (∀ j, j < n → p j = false) → lastN p n = 0
  | 0, _ => rfl
  | n + 1, h => by simp only [lastN, h n (Nat.lt_succ_self n)]; exact lastN_of_none fun j hj => h j (by omega)
theorem lastN_le (p : Nat → Bool) : ∀ n, lastN p n ≤ n
  | 0 => Nat.le_refl _
  | n + 1 => by
    simp only [lastN]
    split
    · exact Nat.le_refl _
    · exact Nat.le_succ_of_le (lastN_le p n)
theorem lastN_of_some {p : Nat → Bool} {k : Nat} (hk : p k = true) : ∀ {n : Nat}, k < n → (∀ j, k < j → j < n → p j = false) → lastN p n = k + 1
  | n + 1, hkn, h => by
    by_cases e : k = n
    · subst e; simp [lastN, hk]
    · simp only [lastN, h n (by omega) (by omega)]
      exact lastN_of_some hk (by omega) fun j h1 h2 => h j h1 (by omega)

/-- Is the entry at that place of that client and number? -/
def hit (es : List Ent) (client req : Int) (i : Nat) : Bool := match es[i]? with
  | some e => decide (e.c = client) && decide (e.r = req)
  | none => false
def hitE (e : Ent) (client req : Int) : Prop := e.c = client ∧ e.r = req
theorem hit_eq {es : List Ent} {client req : Int} {i : Nat} (h : i < es.length) : hit es client req i = (decide (es[i].c = client) && decide (es[i].r = req)) := by
  simp [hit, List.getElem?_eq_getElem h]
def foundOp (m : Int) (k : Nat) : Int := if k = 0 then 0 else m + k

theorem blk_kept {X Y : World} {row : Option Nat} {g : Nat} {t : TypeId} {cs : Array Value} (h : Blk X g t cs) (hg : X.grownBy Y row) (hr : ∀ r, row = some r → ∃ o : Obj, X.heap[r]? = some o ∧ o.isCells = false) : Blk Y g t cs :=
  h.grown hg (fun e => by obtain ⟨o, ho, hc⟩ := hr g e.symm; unfold Blk at h; rw [h] at ho; cases ho; cases hc)

/-- What Find's own variables hold. -/
def FindW (w : World) (b : Nat) (m client req : Int) (v o h : Value) (W : World) : Prop :=
  Blk W (w.heap.size + 1 + 1 + 1) 22 #[o] ∧ Blk W (w.heap.size + 1 + 1 + 1 + 1) 4 #[h] ∧ Blk W w.heap.size 24 #[.pointer (some ⟨b, 0, none⟩)] ∧ Blk W (w.heap.size + 1) 30 #[.int .u32 client] ∧
    Blk W (w.heap.size + 1 + 1) 22 #[.int .u64 req] ∧ Blk W b 67 #[.int .u64 m, v, .bool true] ∧ b < w.heap.size ∧ Below w.heap.size w W
theorem FindW.kept {w : World} {b : Nat} {m client req : Int} {v o h : Value} {X Y : World} {row : Option Nat} (k : FindW w b m client req v o h X) (hg : X.grownBy Y row) (hr : ∀ r, row = some r → w.heap.size ≤ r ∧ ∃ o : Obj, X.heap[r]? = some o ∧ o.isCells = false) : FindW w b m client req v o h Y := by
  obtain ⟨k1, k2, k3, k4, k5, k6, k7, k8⟩ := k
  have hr' := fun r e => (hr r e).2
  exact ⟨blk_kept k1 hg hr', blk_kept k2 hg hr', blk_kept k3 hg hr', blk_kept k4 hg hr', blk_kept k5 hg hr', blk_kept k6 hg hr', k7, k8.grown hg k8.size (fun k e => (hr k e).1)⟩
theorem FindW.set {w : World} {b : Nat} {m client req : Int} {v o h : Value} {X : World} (k : FindW w b m client req v o h X) (o' h' : Value) : FindW w b m client req v o' h' ((X.setCell ⟨w.heap.size + 1 + 1 + 1, 0, none⟩ o').setCell ⟨w.heap.size + 1 + 1 + 1 + 1, 0, none⟩ h') := by
  obtain ⟨k1, k2, k3, k4, k5, k6, k7, k8⟩ := k
  exact ⟨(k1.set_ 0 o').far (by simp) _, (k2.far (by simp) _).set_ 0 h', (k3.far (by simp; omega) _).far (by simp; omega) _, (k4.far (by simp) _).far (by simp) _, (k5.far (by simp) _).far (by simp) _, (k6.far (by simp; omega) _).far (by simp; omega) _, k7,
    (k8.setCell (p := ⟨w.heap.size + 1 + 1 + 1, 0, none⟩) (by simp; omega) _).setCell (p := ⟨w.heap.size + 1 + 1 + 1 + 1, 0, none⟩) (by simp; omega) _⟩
theorem FindW.alloc {w : World} {b : Nat} {m client req : Int} {v o h : Value} {X : World} (k : FindW w b m client req v o h X) (x : Obj) : FindW w b m client req v o h (X.alloc x) :=
  k.kept (World.grownBy_alloc X x none) (by simp)

set_option maxRecDepth 100000 in
set_option maxHeartbeats 2000000 in
theorem log_Find {w : World} {S : Nat → Prop} {b : Nat} {m client req : Int} {es : List Ent} (hL : LogAt w S b m es) (ok : LogOk m es) :
    Calls Try.prog 20 #[.pointer (some ⟨b, 0, none⟩), .int .u32 client, .int .u64 req] w fun x w' =>
      x = .returned (.tuple #[.int .u64 (foundOp m (lastN (hit es client req) es.length)), .bool (decide (0 < lastN (hit es client req) es.length))]) ∧ Below w.heap.size w w' := by
  refine (callsIn_wide (n := 4)).1 ?_
  have hro : Fence.wide.round = none := rfl
  obtain ⟨p, c, hB, hE, hS⟩ := hL
  have hlen := ok.len
  have hlo := ok.low
  have hhi := ok.high
  refine callsIn_of_wp_marks Try.func20 rfl trivial ?_ hro
  simp only [Try.ntmps20, List.size_toArray, List.length_cons, List.length_nil, Nat.reduceAdd, Nat.reduceSub, Array.replicate_succ, Array.replicate_zero, List.push_toArray, List.append_toArray, List.nil_append, List.cons_append]
  have HE := Lib.hid hE
  clear hE
  obtain ⟨W5, hW5⟩ : ∃ W5, ((((w.alloc (.cells #[.pointer (some ⟨b, 0, none⟩)] 24)).alloc (.cells #[.int .u32 client] 30)).alloc (.cells #[.int .u64 req] 22)).alloc (.cells #[.int .u64 0] 22)).alloc (.cells #[.bool false] 4) = W5 := ⟨_, rfl⟩
  have hsz : W5.heap.size = w.heap.size + 5 := by rw [← hW5]; simp
  have hB0 : Below w.heap.size w W5 := by
    rw [← hW5]; exact (((((Below.refl _ w).alloc (Nat.le_refl _) _).alloc (by simp) _).alloc (by simp; omega) _).alloc (by simp; omega) _).alloc (by simp; omega) _
  have kl : Blk W5 w.heap.size 24 #[.pointer (some ⟨b, 0, none⟩)] := by
    rw [← hW5]; exact ((((Blk.new w _ _).alloc _).alloc _).alloc _).alloc _
  have kc : Blk W5 (w.heap.size + 1) 30 #[.int .u32 client] := by
    rw [← hW5]; have h := (((Blk.new (w.alloc (.cells #[.pointer (some ⟨b, 0, none⟩)] 24)) 30 #[.int .u32 client]).alloc (.cells #[.int .u64 req] 22)).alloc (.cells #[.int .u64 0] 22)).alloc (.cells #[.bool false] 4)
    simpa using h
  have kr : Blk W5 (w.heap.size + 1 + 1) 22 #[.int .u64 req] := by
    rw [← hW5]; have h := ((Blk.new ((w.alloc (.cells #[.pointer (some ⟨b, 0, none⟩)] 24)).alloc (.cells #[.int .u32 client] 30)) 22 #[.int .u64 req]).alloc (.cells #[.int .u64 0] 22)).alloc (.cells #[.bool false] 4)
    simpa using h
  have ko : Blk W5 (w.heap.size + 1 + 1 + 1) 22 #[.int .u64 0] := by
    rw [← hW5]; have h := (Blk.new (((w.alloc (.cells #[.pointer (some ⟨b, 0, none⟩)] 24)).alloc (.cells #[.int .u32 client] 30)).alloc (.cells #[.int .u64 req] 22)) 22 #[.int .u64 0]).alloc (.cells #[.bool false] 4)
    simpa using h
  have kh : Blk W5 (w.heap.size + 1 + 1 + 1 + 1) 4 #[.bool false] := by
    rw [← hW5]; have h := (Blk.new ((((w.alloc (.cells #[.pointer (some ⟨b, 0, none⟩)] 24)).alloc (.cells #[.int .u32 client] 30)).alloc (.cells #[.int .u64 req] 22)).alloc (.cells #[.int .u64 0] 22)) 4 #[.bool false])
    simpa using h
  have kb := hB.below hB0
  obtain ⟨v0, v1, v2, -, -, -, hzb⟩ := kb.c3
  obtain ⟨vl, -, -⟩ := kl.c1
  obtain ⟨vc, -, -⟩ := kc.c1
  obtain ⟨vr, -, -⟩ := kr.c1
  have KB := Lib.hid kb
  have KL := Lib.hid kl
  have KC := Lib.hid kc
  have KR := Lib.hid kr
  have KO := Lib.hid ko
  have KH := Lib.hid kh
  have HB0 := Lib.hid hB0
  have HE := Lib.hid (EntsRd.below HE.out hB0)
  have Hsz := Lib.hid hsz
  have HW5 := Lib.hid hW5
  clear kb kl kc kr ko kh hB0 hsz hW5
  gi_wp2_with (first
    | (refine ⟨trivial, ?_⟩; gi_at_call 30; rw [HW5.out]; refine (callsIn_wide.2 (log_none KB.out)).mono ?_; rintro e w' ⟨rfl, rfl⟩)
    | (gi_at_call 41; refine (back_in Fence.wide (4 - 1) trivial hro _ _ _ _).mono ?_; rintro e w' ⟨rfl, rfl⟩))
  refine ⟨trivial, ?_⟩
  refine (back_in Fence.wide (4 - 1) trivial hro _ _ _ _).mono ?_
  rintro e w' ⟨rfl, rfl⟩
  have hF : FindW w b m client req (.slice p es.length c) (.int .u64 0) (.bool false) (W5.alloc (.cells #[.slice p es.length c] 23)) :=
    FindW.alloc ⟨KO.out, KH.out, KL.out, KC.out, KR.out, KB.out, hB.lt, HB0.out⟩ _
  have kS := Blk.new W5 23 #[.slice p es.length c]
  have hB6 : Below W5.heap.size W5 (W5.alloc (.cells #[.slice p es.length c] 23)) := (Below.refl _ W5).alloc (Nat.le_refl _) _
  have hE6 := EntsRd.below HE.out hB6
  have hz6 : (W5.alloc (.cells #[.slice p es.length c] 23)).heap.size = w.heap.size + 6 := by simp [Hsz.out]
  obtain ⟨W6, hW6⟩ : ∃ W6, W5.alloc (.cells #[.slice p es.length c] 23) = W6 := ⟨_, rfl⟩
  rw [hW6] at hF kS hE6 hz6 ⊢
  clear v0 v1 v2 hzb vl vc vr KB KL KC KR KO KH HB0 HW5 hB6 hW6 HE
  have HF := Lib.hid hF
  have HS := Lib.hid kS
  have HE6 := Lib.hid hE6
  have Hz6 := Lib.hid hz6
  clear hF kS hE6 hz6
  gi_wp2
  by_cases hn : 0 < es.length
  · obtain ⟨bb, off, c', f, he, hle, _, hbb, hf⟩ := items HE6.out hn
    injection he with he1 _ he2
    subst he1; subst he2
    have Hf := Lib.hid hf
    clear hf
    have hge : w.heap.size ≤ W6.heap.size := by have := Hz6.out; omega
    have hg6 : w.heap.size + 6 ≤ W6.heap.size := by have := Hz6.out; omega
    refine wpIn_rangeFunc_ownH hro (by decide) (gf := 48) (lb := #[.pointer (some ⟨W5.heap.size, 0, none⟩)]) rfl trivial (enters_of Try.func48 (by kernel_rfl) rfl)
      (back_stops Fence.wide (4 - 1) trivial hro (by decide) W5.heap.size bb off es.length c f hlen hle W6 (by have := Hz6.out; have := Hsz.out; omega) hbb (fun j hj => (Hf.out j hj).1) (HS.out.cell 0) (fun j hj => (Hf.out j hj).2.2))
      belowK_t (belowK_b (Nat.le_refl _)) (Below.refl _ _) (fun _ => rfl)
      (fun pre W => (∀ x ∈ pre, ¬ hitE x.e client req) ∧ FindW w b m client req (.slice (some ⟨bb, off, none⟩) es.length c) (.int .u64 0) (.bool false) W ∧ W6.heap.size ≤ W.heap.size)
      (fun cd pre W => cd = .ret ∧ ∃ ini last, pre = ini ++ [last] ∧ (∀ x ∈ ini, ¬ hitE x.e client req) ∧ hitE last.e client req ∧ FindW w b m client req (.slice (some ⟨bb, off, none⟩) es.length c) (.int .u64 (IntKind.u64.wrap (IntKind.u64.wrap (m + IntKind.u64.wrap (last.i : Int)) + 1))) (.bool true) W)
      (fun s A B row hs hg hr => ⟨hs.1, hs.2.1.kept hg (fun r e => ⟨Nat.le_trans hge (hr r e).1, (hr r e).2⟩), Nat.le_trans hs.2.2 hg.size⟩)
      (fun cd s A B row hs hg hr => by obtain ⟨h0, ini, last, h1, h2, h3, h4⟩ := hs; exact ⟨h0, ini, last, h1, h2, h3, h4.kept hg (fun r e => ⟨Nat.le_trans hge (hr r e).1, (hr r e).2⟩)⟩)
      ⟨(by simp), HF.out, Nat.le_refl _⟩
      (fun x a' W => ∃ Bx, w.heap.size + 6 ≤ Bx ∧ Blk W Bx 33 #[.int .u64 x.e.t, .int .u32 x.e.c, .int .u64 x.e.r, .slice x.p x.e.cmd.length x.c] ∧
        a' = { tmps := #[.pointer (some ⟨b, 0, none⟩), .int .u32 client, .int .u64 req, .pointer (some ⟨w.heap.size, 0, none⟩), .pointer (some ⟨w.heap.size + 1, 0, none⟩), .pointer (some ⟨w.heap.size + 1 + 1, 0, none⟩), .pointer (some ⟨w.heap.size + 1 + 1 + 1, 0, none⟩), .pointer (some ⟨w.heap.size + 1 + 1 + 1 + 1, 0, none⟩), .int .i64 (x.i : Int), .pointer (some ⟨Bx, 0, none⟩), .pointer (some ⟨b, 0, none⟩), .bool false, .pointer (some ⟨b, 0, none⟩), .pointer (some ⟨b, 0, none⟩), .pointer (some ⟨b, 1, none⟩), .slice (some ⟨bb, off, none⟩) es.length c, .func (.func 48) #[] #[.pointer (some ⟨W5.heap.size, 0, none⟩)], .int .i64 (x.i : Int), x.val, undef, undef, undef, undef, undef, undef, undef, undef, undef, undef, undef, undef, undef, undef, undef, undef, undef, undef], defers := [] })
      (fun x a' _ X Y row hs hg hr => by obtain ⟨Bx, h1, h2, h3⟩ := hs; exact ⟨Bx, h1, blk_kept h2 hg (fun r e => (hr r e).2), h3⟩)
      ?assign ?body ?done ?stop
    case assign =>
      rintro l pre x W K ⟨hp, hF, hW⟩ hK
      unfold Itm.val
      gi_wp2
      exact hK _ _ ((KeepsOthers.alloc _ _).from _) ((Below.refl _ W).alloc hW _) ⟨hp, hF.alloc _, by simp; omega⟩ ⟨W.heap.size, by omega, Blk.new W _ _, rfl⟩
    case body =>
      rintro l pre x a' W hl ⟨r, hr⟩ ⟨hp, hF, hW⟩ ⟨Bx, hBx, kx, rfl⟩ hlt
      obtain ⟨k1, k2, k3, k4, k5, k6, k7, k8⟩ := id hF
      obtain ⟨o0, fo, zo⟩ := k1.c1
      obtain ⟨h0, fh, zh⟩ := k2.c1
      obtain ⟨l0, -, -⟩ := k3.c1
      obtain ⟨c0, -, -⟩ := k4.c1
      obtain ⟨r0, -, -⟩ := k5.c1
      obtain ⟨b0, b1, b2, -, -, -, zb⟩ := k6.c3
      obtain ⟨x0, x1, x2, x3, -, -, -, -, zx⟩ := kx.c4
      have HFw := Lib.hid hF
      have Hp := Lib.hid hp
      clear k1 k2 k3 k4 k5 k6 k8 kx hF hp hr
      by_cases e1 : x.e.c = client
      · by_cases e2 : x.e.r = req
        · have d1 : decide (x.e.c = client) = true := by simp [e1]
          have d2 : decide (x.e.r = req) = true := by simp [e2]
          gi_wp2
          exact ⟨((KeepsOthers.setCell _ _ _).trans (KeepsOthers.setCell _ _ _)).from _, rfl, pre, x, rfl, Hp.out, ⟨e1, e2⟩, HFw.out.set _ _⟩
        · have d1 : decide (x.e.c = client) = true := by simp [e1]
          have d2 : decide (x.e.r = req) = false := by simp [e2]
          gi_wp2
          exact ⟨KeepsFrom.refl _ _, Below.refl _ _, fun y hy => (List.mem_append.1 hy).elim (Hp.out y) (fun h => by simp at h; subst h; exact fun h => e2 h.2), HFw.out, hW⟩
      · have d1 : decide (x.e.c = client) = false := by simp [e1]
        gi_wp2
        exact ⟨KeepsFrom.refl _ _, Below.refl _ _, fun y hy => (List.mem_append.1 hy).elim (Hp.out y) (fun h => by simp at h; subst h; exact fun h => e1 h.1), HFw.out, hW⟩
    case done =>
      rintro D xs W hD rfl ⟨hp, hF, hW⟩ hK
      obtain ⟨k1, k2, -⟩ := id hF
      obtain ⟨o0, fo, zo⟩ := k1.c1
      obtain ⟨h0, fh, zh⟩ := k2.c1
      have hno : lastN (hit es client req) es.length = 0 := by
        refine lastN_of_none fun j hj => ?_
        have hx := hp (f j) (by simp only [upto, List.mem_map, List.mem_range]; exact ⟨es.length - 1 - j, by omega, by congr 1; omega⟩)
        rw [hit_eq hj, ← (Hf.out j hj).2.1]
        unfold hitE at hx
        simpa using hx
      have HFw := Lib.hid hF
      have Hno := Lib.hid hno
      clear k1 k2 hF hp hno
      gi_wp2
      have hF2 := HFw.out.set (.int .u64 0) (.bool false)
      have hK2 := ((KeepsOthers.setCell W ⟨w.heap.size + 1 + 1 + 1, 0, none⟩ (.int .u64 0)).trans (KeepsOthers.setCell _ ⟨w.heap.size + 1 + 1 + 1 + 1, 0, none⟩ (.bool false))).same D _ hK rfl
      have hF3 := hF2.kept (grownBy_putObj' _ D (.deferred none)) (fun r e => by cases e; exact ⟨by omega, _, hK2, rfl⟩)
      refine ⟨by simp, .inl ⟨_, _, rfl, run_takeDeferred hK2, ?_⟩⟩
      obtain ⟨k1, k2, -, -, -, -, -, k8⟩ := id hF3
      obtain ⟨o0, -, -⟩ := k1.c1
      obtain ⟨h0, -, -⟩ := k2.c1
      refine ⟨.tuple #[.int .u64 0, .bool false], ?_, ?_, k8⟩
      · simp [results, Try.f20, go_sem, o0, h0]
      · rw [Hno.out]; rfl
    case stop =>
      rintro D cd pre W hD ⟨k, hk, rfl⟩ ⟨rfl, ini, last, e1, e2, e3, hF⟩ hK
      have HFw := Lib.hid hF
      clear hF
      gi_wp2
      have hF3 := HFw.out.kept (grownBy_putObj' _ D (.deferred none)) (fun r e => by cases e; exact ⟨by omega, _, hK, rfl⟩)
      refine ⟨by simp, .inl ⟨_, _, rfl, run_takeDeferred hK, ?_⟩⟩
      obtain ⟨k1, k2, -, -, -, -, -, k8⟩ := id hF3
      obtain ⟨o0, -, -⟩ := k1.c1
      obtain ⟨h0, -, -⟩ := k2.c1
      obtain ⟨k', rfl⟩ : ∃ k', k = k' + 1 := by
        cases k with
        | zero => simp [upto] at e1
        | succ k' => exact ⟨k', rfl⟩
      rw [upto_succ] at e1
      obtain ⟨rfl, e5⟩ := List.append_inj' e1 rfl
      obtain rfl : f (es.length - 1 - k') = last := by simpa using e5
      obtain ⟨j, hj⟩ : ∃ j, j = es.length - 1 - k' := ⟨_, rfl⟩
      rw [← hj] at e3 o0
      have hjl : j < es.length := by omega
      have hyes : lastN (hit es client req) es.length = j + 1 := by
        refine lastN_of_some ?_ hjl ?_
        · rw [hit_eq hjl, ← (Hf.out j hjl).2.1]
          unfold hitE at e3
          simpa using e3
        · intro i hi1 hi2
          have hx := e2 (f i) (by simp only [upto, List.mem_map, List.mem_range]; exact ⟨es.length - 1 - i, by omega, by congr 1; omega⟩)
          rw [hit_eq hi2, ← (Hf.out i hi2).2.1]
          unfold hitE at hx
          simpa using hx
      rw [(Hf.out j hjl).1, IntWalk.u64_in (j : Int) (by omega), IntWalk.u64_in (m + (j : Int)) (by omega), IntWalk.u64_in (m + (j : Int) + 1) (by omega)] at o0
      refine ⟨.tuple #[.int .u64 (m + j + 1), .bool true], ?_, ?_, k8⟩
      · simp [results, Try.f20, go_sem, o0, h0]
      · rw [hyes]
        have q : foundOp m (j + 1) = m + j + 1 := by simp [foundOp]; omega
        rw [q]; simp
  · have hn0 : es.length = 0 := by omega
    have hge : w.heap.size ≤ W6.heap.size := by have := Hz6.out; omega
    have hno : lastN (hit es client req) es.length = 0 := by rw [hn0]; rfl
    have Hno := Lib.hid hno
    clear hno
    have hS6 := HS.out.cell 0
    rw [hn0] at hS6
    refine wpIn_rangeFunc_ownH (α := Empty) hro (by decide) (gf := 48) (lb := #[.pointer (some ⟨W5.heap.size, 0, none⟩)]) rfl trivial (enters_of Try.func48 (by kernel_rfl) rfl)
      (back_stops0 Fence.wide (4 - 1) trivial hro W5.heap.size c p (fun x : Empty => #[]) W6 (by have := Hz6.out; have := Hsz.out; omega) hS6)
      belowK_t (belowK_b (Nat.le_refl _)) (Below.refl _ _) (fun x => x.elim)
      (fun pre W => FindW w b m client req (.slice p es.length c) (.int .u64 0) (.bool false) W)
      (fun cd pre W => False)
      (fun s A B row hs hg hr => hs.kept hg (fun r e => ⟨Nat.le_trans hge (hr r e).1, (hr r e).2⟩))
      (fun cd s A B row hs hg hr => hs)
      HF.out
      (fun x a' W => False)
      (fun x a' _ X Y row hs hg hr => hs)
      ?assign ?body ?done ?stop
    case assign =>
      rintro l pre x
      exact x.elim
    case body =>
      rintro l pre x a' W hl _ _ h hlt
      exact h.elim
    case done =>
      rintro D xs W hD rfl hF hK
      obtain ⟨k1, k2, -⟩ := id hF
      obtain ⟨o0, fo, zo⟩ := k1.c1
      obtain ⟨h0, fh, zh⟩ := k2.c1
      have HFw := Lib.hid hF
      clear k1 k2 hF
      gi_wp2
      have hF2 := HFw.out.set (.int .u64 0) (.bool false)
      have hK2 := ((KeepsOthers.setCell W ⟨w.heap.size + 1 + 1 + 1, 0, none⟩ (.int .u64 0)).trans (KeepsOthers.setCell _ ⟨w.heap.size + 1 + 1 + 1 + 1, 0, none⟩ (.bool false))).same D _ hK rfl
      have hF3 := hF2.kept (grownBy_putObj' _ D (.deferred none)) (fun r e => by cases e; exact ⟨by omega, _, hK2, rfl⟩)
      refine ⟨by simp, .inl ⟨_, _, rfl, run_takeDeferred hK2, ?_⟩⟩
      obtain ⟨k1, k2, -, -, -, -, -, k8⟩ := id hF3
      obtain ⟨o0, -, -⟩ := k1.c1
      obtain ⟨h0, -, -⟩ := k2.c1
      refine ⟨.tuple #[.int .u64 0, .bool false], ?_, ?_, k8⟩
      · simp [results, Try.f20, go_sem, o0, h0]
      · rw [Hno.out]; rfl
    case stop =>
      rintro D cd pre W hD _ h _
      exact h.elim

end Go.Proofs.Ytmoifhoncanjjaa
