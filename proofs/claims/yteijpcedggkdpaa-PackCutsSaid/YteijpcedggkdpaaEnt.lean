/-
  Entries of a log: what they read as, and the contracts of logs.own and logs.owns.
-/
import Derived.Test.YteijpcedggkdpaaMem
namespace Go.Proofs.Yteijpcedggkdpaa
open Go.RowKit

/-- An entry's data. -/
structure Ent where
  t : Int
  c : Int
  r : Int
  cmd : List UInt8

def bcells (l : List UInt8) : List Value := l.map fun b => .int .u8 b.toNat
theorem bcells_len (l : List UInt8) : (bcells l).length = l.length := by simp [bcells]
theorem bcells_one (l : List UInt8) : ∀ u ∈ bcells l, u.oneCell' = true := by
  intro u hu; obtain ⟨x, _, rfl⟩ := List.mem_map.1 hu; rfl

/-- An entry as a value. -/
def entVal (e : Ent) (s : Value) : Value := .agg #[.int .u64 e.t, .int .u32 e.c, .int .u64 e.r, s]

theorem ent_one (e : Ent) (p : Option Addr) {n c : Nat} : ∀ u ∈ [Value.int .u64 e.t, .int .u32 e.c, .int .u64 e.r, .slice p n c], u.oneCell' = true := by
  intro u hu
  simp at hu
  rcases hu with rfl | rfl | rfl | rfl <;> rfl

set_option maxHeartbeats 400000 in
theorem own_any {w : World} {S : Nat → Prop} {s : Value} (e : Ent) (h : Rd w S 1 s e.cmd.length (bcells e.cmd)) (hb : e.cmd.length ≤ 140737488355328) :
    Calls Try.prog 30 #[entVal e s] w fun x w' => ∃ p c, x = .returned (entVal e (.slice p e.cmd.length c)) ∧ w'.ownsRow w.heap.size 5 1 (.slice p e.cmd.length c) e.cmd.length (bcells e.cmd) ∧ Below w.heap.size w w' := by
  unfold entVal
  have H := Lib.hid h
  clear h
  go_enter Try.func30, Try.ntmps30
  go_wp2_with fail
  refine (bytes_Clone (S := S) (Rd.alloc (Rd.alloc H.out (by decide) _) (by decide) _) (bcells_one _) hb).mono ?_
  rintro x w1 ⟨p, c, rfl, hown, hbl⟩
  have k1 := ((Blk.new w _ _).alloc _).below hbl
  have k2 := (Blk.new (w.alloc _) _ _).below hbl
  rw [World.size_alloc] at k2
  obtain ⟨a0, a1, a2, a3, f0, f1, f2, f3, hz1⟩ := k1.c4
  obtain ⟨b0, b1, b2, b3, g0, g1, g2, g3, hz2⟩ := k2.c4
  have Ho := Lib.hid hown
  have Hb := Lib.hid hbl
  clear hown hbl k1 k2
  go_wp2_with fail
  refine bodyPost_ret (v := entVal e (.slice p e.cmd.length c)) (by simp [results, Try.results30, go_sem, b0, b1, b2, b3, entVal]) rfl ?_
  refine ⟨p, c, rfl, ?_, ?_⟩
  · refine own_base (base := w.heap.size + 2) ?_ (by omega)
    have h := Ho.out
    simp only [World.size_alloc] at h
    repeat' (first | (with_reducible exact h) | with_reducible refine ownsRow_setCell_below ?_ (by simp) _)
  · refine Below.trans ((((Below.refl _ _).alloc (Nat.le_refl _) _).alloc (by simp) _).trans (Hb.out.mono (by simp; omega))) ?_
    repeat' (first | (with_reducible exact Below.refl _ _) | with_reducible refine Below.setCell ?_ (by simp) _)

/-- The cells of an entry, Q of its command's slice. -/
def EntR (Q : Value → List UInt8 → Prop) (c : List Value) (e : Ent) : Prop := ∃ s, c = [.int .u64 e.t, .int .u32 e.c, .int .u64 e.r, s] ∧ Q s e.cmd
theorem EntR.one {Q : Value → List UInt8 → Prop} (hQ : ∀ s b, Q s b → s.oneCell' = true) (c : List Value) (e : Ent) (h : EntR Q c e) : ∀ u ∈ c, u.oneCell' = true := by
  obtain ⟨s, rfl, hq⟩ := h
  intro u hu
  simp at hu
  rcases hu with rfl | rfl | rfl | rfl
  · rfl
  · rfl
  · rfl
  · exact hQ _ _ hq
/-- A command's slice that reads so. -/
def CmdRd (w : World) (S : Nat → Prop) (s : Value) (b : List UInt8) : Prop := Rd w S 1 s b.length (bcells b)
/-- A command's slice in memory from base on. -/
def CmdOwn (w : World) (base : Nat) (s : Value) (b : List UInt8) : Prop := w.ownsRow base 5 1 s b.length (bcells b)

theorem CmdRd.one {w : World} {S : Nat → Prop} (s : Value) (b : List UInt8) (h : CmdRd w S s b) : s.oneCell' = true := by
  obtain ⟨p, c, rfl⟩ := Rd.slice h
  rfl
/-- A slice of entries reads so. -/
def EntsRd (w : World) (S : Nat → Prop) (v : Value) (es : List Ent) : Prop := ∃ cs, Rd w S 4 v es.length cs ∧ Els (EntR (CmdRd w S)) 4 cs es
/-- A slice of entries, all in memory from base on. -/
def EntsOwn (w : World) (base : Nat) (v : Value) (es : List Ent) : Prop := ∃ cs, w.ownsRow base 44 4 v es.length cs ∧ Els (EntR (CmdOwn w base)) 4 cs es
/-- No command is too long. -/
def Fits (es : List Ent) : Prop := ∀ e ∈ es, e.cmd.length ≤ 140737488355328

theorem EntsOwn.below {w w' : World} {base : Nat} {v : Value} {es : List Ent} (h : EntsOwn w base v es) (hb : Below w.heap.size w w') : EntsOwn w' base v es := by
  obtain ⟨cs, ho, hE⟩ := h
  exact ⟨cs, own_below ho hb, hE.imp fun c e _ ⟨s, hs, hq⟩ => ⟨s, hs, own_below hq hb⟩⟩
theorem EntsOwn.base {w : World} {base base' : Nat} {v : Value} {es : List Ent} (h : EntsOwn w base v es) (hb : base' ≤ base) : EntsOwn w base' v es := by
  obtain ⟨cs, ho, hE⟩ := h
  exact ⟨cs, own_base ho hb, hE.imp fun c e _ ⟨s, hs, hq⟩ => ⟨s, hs, own_base hq hb⟩⟩

/-- One entry more, appended. -/
theorem EntsOwn.snoc {w w' : World} {base : Nat} {v v' s : Value} {es : List Ent} {e : Ent} {cs : List Value} (ho : w.ownsRow base 44 4 v es.length cs) (hE : Els (EntR (CmdOwn w base)) 4 cs es)
    (hs : CmdOwn w base s e.cmd) (hg : w.grownBy w' v.ownBlock) (ho' : w'.ownsRow base 44 4 v' (es.length + 1) (cs ++ [.int .u64 e.t, .int .u32 e.c, .int .u64 e.r, s])) : EntsOwn w' base v' (es ++ [e]) := by
  refine ⟨_, by simpa using ho', Els.snoc (hE.imp fun c e _ ⟨s, hs, hq⟩ => ⟨s, hs, own_grown hq ho (by decide) hg⟩) rfl ⟨s, rfl, own_grown hs ho (by decide) hg⟩⟩

set_option maxHeartbeats 400000 in
theorem owns_any {w : World} {S : Nat → Prop} {v : Value} {es : List Ent} (h : EntsRd w S v es) (hf : Fits es) (hn : es.length ≤ 1000) :
    Calls Try.prog 21 #[v] w fun x w' => ∃ p c, x = .returned (.slice p es.length c) ∧ EntsOwn w' w.heap.size (.slice p es.length c) es ∧ Below w.heap.size w w' := by
  obtain ⟨i0, hi, hz0, hz1, hz2⟩ := info_parts infoE
  obtain ⟨cs, hr, hE⟩ := h
  obtain ⟨hl, p, c, rfl, hc, hm, hcell⟩ := hr
  have hr : Rd w S 4 (.slice p es.length c) es.length cs := ⟨hl, p, c, rfl, hc, hm, hcell⟩
  have Hr := Lib.hid hr
  have HE := Lib.hid hE
  have Hf := Lib.hid hf
  clear hcell hl hr hE hf hm
  go_enter Try.func21, Try.ntmps21
  go_wp2_with fail
  go_loopw [3, 8] (fun out i wr => ∃ (k : Nat) (p : Option Addr) (c : Nat), k ≤ es.length ∧ i = .int .i64 k ∧ out = .slice p k c ∧ EntsOwn wr w.heap.size out (es.take k) ∧ Below w.heap.size w wr) (fun _ i _ => es.length - (intOf i).toNat)
  case atStart => exact ⟨0, none, 0, Nat.zero_le _, rfl, rfl, ⟨[], by simpa using World.ownsRow_nil _ _ _ _, by simpa using Els.nil _ _⟩, Below.refl _ _⟩
  case round =>
    obtain ⟨k, p1, c1, hk, rfl, rfl, hown, hb⟩ := hrel
    have Ho := Lib.hid hown
    have Hb := Lib.hid hb
    clear hown hb
    by_cases hlt : k < es.length
    · have hr := Hr.out
      obtain ⟨b, off, c', he, hb1, hb2, hb3, hcell⟩ := Rd.form hr (by omega)
      injection he with he1 _ he2
      subst he1; subst he2
      obtain ⟨s, hs, hq⟩ := HE.out.2 k es[k] (List.getElem?_eq_getElem hlt)
      obtain ⟨e0, e1, e2, e3⟩ := cells4 hcell hs
      have lt := lt_of_cell e0
      obtain ⟨hc, -⟩ := bcell Hb.out
      rw [← hc b _ lt] at e0 e1 e2 e3
      obtain ⟨sp, sc, rfl⟩ := Rd.slice hq
      have Hq := Lib.hid hq
      clear hq hc hs hcell hr
      go_wp2_with fail
      refine (own_any (S := S) es[k] (Rd.alloc (Rd.below Hq.out (by decide) Hb.out) (by decide) _) (Hf.out _ (List.getElem_mem _))).mono ?_
      rintro x w2 ⟨p2, c2, rfl, hs2, hb2'⟩
      have hk : Below wr.heap.size wr w2 := ((Below.refl _ _).alloc (Nat.le_refl _) _).trans (hb2'.mono (by simp))
      have Hk := Lib.hid hk
      have hz : wr.heap.size + 1 ≤ w2.heap.size := by have := hb2'.size; simpa using this
      obtain ⟨cs', ho, hE'⟩ := EntsOwn.below Ho.out hk
      have Hs := Lib.hid (own_base hs2 (base' := w.heap.size) (by have := Hb.out.size; simp; omega))
      have Hw := Lib.hid ho
      have HE' := Lib.hid hE'
      clear hs2 hb2' hk ho hE'
      unfold entVal
      have hlk : (es.take k).length = k := by rw [List.length_take]; omega
      have Hlk := Lib.hid hlk
      clear hlk
      go_wp2_with (at_builtin; refine wpList_append_own _ rfl _ _ 23 rfl w.heap.size 44 i0 _ 4 48 Try.underlying23 hi hz0 hz1 hz2 rfl (by decide) _ k cs' rfl (own_alloc (by have h := Hw.out; rw [Hlk.out] at h; exact h) _) ⟨w2.heap.size, 0, none⟩ 1 1 [.int .u64 es[k].t, .int .u32 es[k].c, .int .u64 es[k].r, .slice p2 es[k].cmd.length c2] rfl rfl ?c1 ?c2 ?c3 ?c4 ?c5 ?_)
      case c1 => exact news_of_block (cs := [.int .u64 es[k].t, .int .u32 es[k].c, .int .u64 es[k].r, .slice p2 es[k].cmd.length c2]) (heap_alloc_new w2 _)
      case c2 => intro u hu; simp at hu; rcases hu with rfl | rfl | rfl | rfl <;> rfl
      case c3 => unfold maxLen; omega
      case c4 => omega
      case c5 => have := Hb.out.size; simp; omega
      intro v' w3 hown3 hgrow hnil
      clear hnil
      obtain ⟨p3, c3, rfl⟩ := own_slice hown3
      have hfin : EntsOwn w3 w.heap.size (.slice p3 (k + 1) c3) (es.take (k + 1)) := by
        rw [take_snoc es k hlt]
        have h0 := own_alloc Hw.out (.cells #[.int .u64 es[k].t, .int .u32 es[k].c, .int .u64 es[k].r, .slice p2 es[k].cmd.length c2] 44)
        refine EntsOwn.snoc h0 (HE'.out.imp fun c e _ ⟨s, hs, hq⟩ => ⟨s, hs, own_alloc hq _⟩) (own_alloc Hs.out _) hgrow ?_
        rw [Hlk.out]
        exact hown3
      have hbl : Below w.heap.size w w3 := by
        refine ((Hb.out.trans (Hk.out.mono Hb.out.size)).alloc ?_ _).grown hgrow ?_ ?_
        · have := Hb.out.size; omega
        · have := Hb.out.size; simp; omega
        · intro g hg
          exact ((Hw.out.lt g hg)).1
      have Hfin := Lib.hid hfin
      have Hbl := Lib.hid hbl
      clear hown3 hgrow hfin hbl
      go_wp2_with fail
      go_roundw
      case rel => exact ⟨k + 1, p3, c3, by omega, by go_num, rfl, Hfin.out, Hbl.out⟩
      case measure => simp [intOf]; omega
    · obtain rfl : k = es.length := by omega
      go_wp2_with fail
      go_ret
      have h := Ho.out
      rw [List.take_length] at h
      exact ⟨p1, c1, rfl, h, Hb.out⟩
end Go.Proofs.Yteijpcedggkdpaa
