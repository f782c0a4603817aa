/-
  spoil turns the bytes of the entries that it is given, and nothing else: the contract.
-/
import Derived.Test.YtmoifhoncanjjaaLog
namespace Go.Proofs.Ytmoifhoncanjjaa
open Go.RowKit
set_option linter.unusedSimpArgs false
set_option linter.unusedVariables false

/-- Bytes in a block of M, whatever they are. -/
def BSp (w : World) (M : Nat → Prop) (s : Value) (n : Nat) : Prop :=
  ∃ p c, s = .slice p n c ∧ (0 < n → ∃ g cur, p = some ⟨g, 0, none⟩ ∧ M g ∧ Blk w g 5 cur ∧ n ≤ c ∧ ∀ j, j < n → ∃ x : Int, cur[j]? = some (.int .u8 x))
theorem BSp.own {w : World} {lo : Nat} {s : Value} {b : List UInt8} (h : CmdOwn w lo s b) : BSp w (fun j => lo ≤ j ∧ j < w.heap.size) s b.length := by
  obtain ⟨p, c, rfl⟩ := own_slice h
  refine ⟨p, c, rfl, fun hn => ?_⟩
  rcases h.2 with ⟨h1, h2⟩ | ⟨g, cap, cur, h1, hg, hh, hnc, -, -, ht⟩
  · omega
  · injection h1 with e1 _ e2
    subst e1; subst e2
    refine ⟨g, cur, rfl, ⟨hg, (Array.getElem?_eq_some_iff.1 hh).1⟩, hh, hnc, fun j hj => ?_⟩
    have e : (cur.toList.take (b.length * 1))[j]? = (bcells b)[j]? := by rw [ht]
    rw [List.getElem?_take, if_pos (by omega)] at e
    refine ⟨_, by rw [← Array.getElem?_toList, e]; simp [bcells, List.getElem?_eq_getElem hj]; rfl⟩
theorem BSp.ext {w w' : World} {M M' E : Nat → Prop} {n : Nat} {s : Value} (h : BSp w M s n) (hX : Ext E w w') (hE : ∀ j, M j → j < w.heap.size → ¬ E j) (hM : ∀ j, M j → j < w.heap.size → M' j) : BSp w' M' s n := by
  obtain ⟨p, c, rfl, h⟩ := h
  refine ⟨p, c, rfl, fun hn => ?_⟩
  obtain ⟨g', cur', rfl, hl, hb, hc, hx⟩ := h hn
  exact ⟨g', cur', rfl, hM _ hl hb.lt, hb.ext hX (hE _ hl hb.lt), hc, hx⟩
theorem BSp.set {w : World} {M : Nat → Prop} {g j n : Nat} {s : Value} {cur : Array Value} (h : BSp w M s n) (hg : Blk w g 5 cur) (x : Int) : BSp (w.setCell ⟨g, j, none⟩ (.int .u8 x)) M s n := by
  obtain ⟨p, c, rfl, h⟩ := h
  refine ⟨p, c, rfl, fun hn => ?_⟩
  obtain ⟨g', cur', rfl, hl, hb, hc, hx⟩ := h hn
  by_cases he : g' = g
  · subst he
    refine ⟨g', _, rfl, hl, hb.set_ j _, hc, fun i hi => ?_⟩
    rw [Array.getElem?_setIfInBounds]
    obtain ⟨z, hz⟩ := hx i hi
    split
    · split
      · exact ⟨x, rfl⟩
      · rename_i hq
        subst_vars
        rw [Array.getElem?_eq_none (by omega)] at hz
        cases hz
    · exact ⟨z, hz⟩
  · exact ⟨g', cur', rfl, hl, hb.far he _, hc, hx⟩
theorem BSp.slice {w : World} {M : Nat → Prop} {n : Nat} {s : Value} (h : BSp w M s n) : ∃ p c, s = .slice p n c := by
  obtain ⟨p, c, rfl, -⟩ := h
  exact ⟨p, c, rfl⟩
theorem BSp.cell {w : World} {M : Nat → Prop} {n c j : Nat} {p : Option Addr} (h : BSp w M (.slice p n c) n) (hj : j < n) : ∃ g cur x, p = some ⟨g, 0, none⟩ ∧ M g ∧ Blk w g 5 cur ∧ n ≤ c ∧ w.cell? ⟨g, j, none⟩ = some (.int .u8 x) ∧ w.frozen? ⟨g, j, none⟩ = false := by
  obtain ⟨p', c', he, h⟩ := h
  injection he with e1 _ e2
  subst e1; subst e2
  obtain ⟨g, cur, rfl, hl, hb, hc, hx⟩ := h (by omega)
  obtain ⟨x, hx⟩ := hx j hj
  exact ⟨g, cur, x, rfl, hl, hb, hc, (hb.cell j).trans hx, hb.frozen j⟩

/-- Entries of the call's own, whatever their bytes are; those lie in M. -/
def SpE (w : World) (lo : Nat) (M : Nat → Prop) (v : Value) (es : List Ent) : Prop := ∃ cs, w.ownsRow lo 33 4 v es.length cs ∧ Els (EntR (fun s b => BSp w M s b.length)) 4 cs es
theorem SpE.own {w : World} {lo : Nat} {v : Value} {es : List Ent} (h : EntsOwn w lo v es) : SpE w lo (fun j => lo ≤ j ∧ j < w.heap.size) v es := by
  obtain ⟨cs, ho, hE⟩ := h
  exact ⟨cs, ho, hE.imp fun c e _ ⟨s, hs, hq⟩ => ⟨s, hs, BSp.own hq⟩⟩
theorem SpE.below {w w' : World} {lo : Nat} {M : Nat → Prop} {v : Value} {es : List Ent} (h : SpE w lo M v es) (hX : Below w.heap.size w w') : SpE w' lo M v es := by
  obtain ⟨cs, ho, hE⟩ := h
  exact ⟨cs, own_below ho hX, hE.imp fun c e _ ⟨s, hs, hq⟩ => ⟨s, hs, hq.ext (Ext.of_below (fun _ => False) hX) (fun _ _ _ => id) (fun _ h _ => h)⟩⟩
theorem SpE.set {w : World} {lo g j : Nat} {M : Nat → Prop} {v : Value} {cur : Array Value} {es : List Ent} (h : SpE w lo M v es) (hg : Blk w g 5 cur) (x : Int) : SpE (w.setCell ⟨g, j, none⟩ (.int .u8 x)) lo M v es := by
  obtain ⟨cs, ho, hE⟩ := h
  exact ⟨cs, own_set ho hg (by decide) _ _, hE.imp fun c e _ ⟨s, hs, hq⟩ => ⟨s, hs, hq.set hg x⟩⟩
/-- One entry, in a block just made. -/
theorem SpE.one {w : World} {M : Nat → Prop} {e : Ent} {p : Option Addr} {n c : Nat} (h : BSp w M (.slice p n c) e.cmd.length) (hn : n = e.cmd.length) : SpE (w.alloc (.cells #[.int .u64 e.t, .int .u32 e.c, .int .u64 e.r, .slice p n c] 33)) w.heap.size M (.slice (some ⟨w.heap.size, 0, none⟩) 1 1) [e] := by
  subst hn
  have hb := (Below.refl w.heap.size w).alloc (Nat.le_refl _) (.cells #[.int .u64 e.t, .int .u32 e.c, .int .u64 e.r, .slice p e.cmd.length c] 33)
  refine ⟨[.int .u64 e.t, .int .u32 e.c, .int .u64 e.r, .slice p e.cmd.length c], ⟨rfl, .inr ⟨w.heap.size, 1, _, rfl, Nat.le_refl _, heap_alloc_new w _, Nat.le_refl _, by unfold maxLen; omega, rfl, rfl⟩⟩, ⟨rfl, fun i x hx => ?_⟩⟩
  match i, hx with
  | 0, hx =>
    simp only [List.getElem?_cons_zero, Option.some.injEq] at hx
    subst hx
    exact ⟨_, rfl, h.ext (Ext.of_below (fun _ => False) hb) (fun _ _ _ => id) (fun _ h _ => h)⟩
  | i + 1, hx => simp at hx
theorem frozen_own {w : World} {base sz n n' c g j : Nat} {e : TypeId} {cs : List Value} (h : w.ownsRow base e sz (.slice (some ⟨g, 0, none⟩) n c) n' cs) : w.frozen? ⟨g, j, none⟩ = false := by
  rcases h.2 with ⟨h1, _⟩ | ⟨g', cap, cur, h1, _, hh, _⟩
  · cases h1
  · injection h1 with h1
    injection h1 with h1
    injection h1 with h1
    subst h1
    simp [World.frozen?, hh]
theorem SpE.at {w : World} {lo k n c : Nat} {M : Nat → Prop} {p : Option Addr} {es : List Ent} (h : SpE w lo M (.slice p n c) es) (hk : k < es.length) :
    ∃ b s, p = some ⟨b, 0, none⟩ ∧ n = es.length ∧ es.length ≤ c ∧ BSp w M s es[k].cmd.length ∧ w.cell? ⟨b, k * 4 + 3, none⟩ = some s ∧ w.frozen? ⟨b, k * 4 + 3, none⟩ = false := by
  obtain ⟨cs, ho, hE⟩ := h
  have hnc : n = es.length ∧ es.length ≤ c := by
    rcases ho.2 with ⟨h1, h2⟩ | ⟨g, cap, cur, h1, _, _, hn, _⟩
    · omega
    · injection h1 with _ h0 h1; omega
  obtain ⟨rfl, hcc⟩ := hnc
  have hnc : es.length = es.length ∧ es.length ≤ c := ⟨rfl, hcc⟩
  rcases ho.2 with ⟨h1, h2⟩ | ⟨g, cap, cur, h1, _, _, hn, _⟩
  · omega
  · injection h1 with e1 _ _
    subst e1
    obtain ⟨s, hs, hq⟩ := hE.2 k es[k] (List.getElem?_eq_getElem hk)
    obtain ⟨-, -, -, h3⟩ := four_at hs
    have hj := (List.getElem?_eq_some_iff.1 h3).1
    refine ⟨g, s, rfl, hnc.1, hnc.2, hq, ?_, frozen_own ho⟩
    rw [ho.cellAt (k * 4 + 3) (by rw [← ho.1]; exact hj)]
    exact h3

set_option maxHeartbeats 3200000 in
theorem spoil_any {w : World} {lo : Nat} {M : Nat → Prop} {p : Option Addr} {n0 c : Nat} {es : List Ent} (h : SpE w lo M (.slice p n0 c) es) (hn0 : n0 = es.length) (hn : es.length ≤ 1000) (hf : Fits es) :
    Calls Try.prog 24 #[.slice p n0 c] w fun x w' => x = .returned (.tuple #[]) ∧ Ext M w w' := by
  subst hn0
  have H := Lib.hid h
  have Hf := Lib.hid hf
  clear h hf
  go_enter Try.func24, Try.ntmps24
  go_wp2_with fail
  go_loopw [2, 3] (fun i j wr => ∃ k : Nat, k ≤ es.length ∧ i = .int .i64 k ∧ Hid (SpE wr lo M (.slice p es.length c) es ∧ Ext M w wr)) (fun i _ _ => es.length - (intOf i).toNat)
  case atStart => exact ⟨0, Nat.zero_le _, rfl, Lib.hid ⟨H.out, Ext.refl _ _⟩⟩
  case round =>
    obtain ⟨k, hk, rfl, hR⟩ := hrel
    by_cases hlt : k < es.length
    · obtain ⟨n, hnn⟩ : ∃ n, es[k].cmd.length = n := ⟨_, rfl⟩
      have Hn := Lib.hid hnn
      have hn47 : n ≤ 140737488355328 := by rw [← hnn]; exact Hf.out _ (List.getElem_mem _)
      clear hnn
      go_wp2_with fail
      go_loopw [3] (fun i wr => ∃ j : Nat, j ≤ n ∧ i = .int .i64 j ∧ Hid (SpE wr lo M (.slice p es.length c) es ∧ Ext M w wr)) (fun i _ => n - (intOf i).toNat)
      case atStart => exact ⟨0, Nat.zero_le _, rfl, hR⟩
      case round =>
        clear hR
        obtain ⟨j, hj, rfl, hR⟩ := hrel
        obtain ⟨b, s, hp, -, hc, hq, h3, hfr3⟩ := hR.out.1.at hlt
        obtain ⟨sp, sc, rfl⟩ := hq.slice
        subst hp
        rw [Hn.out] at hq h3
        by_cases hlt2 : j < n
        · obtain ⟨g, cur, x, hp2, hlo, hg, hsc, hcell, hfr⟩ := hq.cell hlt2
          subst hp2
          have hne : b ≠ g := by
            obtain ⟨cs, ho, -⟩ := hR.out.1
            exact fun e => own_ne ho hg (by decide) (by rw [e]; rfl)
          clear hq
          go_wp2_with fail
          go_roundw
          case rel => exact ⟨j + 1, by omega, by go_num, Lib.hid ⟨hR.out.1.set hg _, hR.out.2.setCell (p := ⟨g, j, none⟩) (.inl hlo) _⟩⟩
          case measure => simp [intOf] <;> omega
        · obtain rfl : j = n := by omega
          clear hq
          go_wp2_with fail
          go_roundw
          case rel => exact ⟨k + 1, by omega, by go_num, hR⟩
          case measure => simp [intOf] <;> omega
    · obtain rfl : k = es.length := by omega
      go_wp2_with fail
      exact bodyPost_end (results_none rfl _ _ _) rfl ⟨rfl, hR.out.2⟩
end Go.Proofs.Ytmoifhoncanjjaa
