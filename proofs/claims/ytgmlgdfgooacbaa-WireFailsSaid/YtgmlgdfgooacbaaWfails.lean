/-
  WireFails: the walk. Condition: the arguments can be read. (Printed by wip/gen_wfails2.py.)
-/
import Derived.Test.YtgmlgdfgooacbaaAsk
namespace Go.Proofs.Ytgmlgdfgooacbaa
open Go.RowKit
set_option linter.unusedSimpArgs false
set_option linter.unusedVariables false

structure Ask where
  what : Int
  most : Int
  n : Int
def AskR (c : List Value) (t : Ask) : Prop := c = [.int .i64 t.what, .int .i64 t.most, .int .u64 t.n]
def AsksRd (w : World) (S : Nat → Prop) (v : Value) (ts : List Ask) : Prop := ∃ cs, Rd w S 3 v ts.length cs ∧ Els AskR 3 cs ts
def AsksOk (ts : List Ask) : Prop := ∀ t ∈ ts, t.most ≤ 9223372036854775807
theorem AsksRd.below {w w' : World} {S : Nat → Prop} {v : Value} {ts : List Ask} (h : AsksRd w S v ts) (hb : Below w.heap.size w w') : AsksRd w' S v ts := by
  obtain ⟨cs, hr, hE⟩ := h
  exact ⟨cs, hr.below (by decide) hb, hE⟩
theorem AsksRd.ext {M S : Nat → Prop} {w w' : World} {v : Value} {ts : List Ask} (h : AsksRd w S v ts) (hX : Ext M w w') (hM : ∀ k, S k → ¬ M k) : AsksRd w' S v ts := by
  obtain ⟨cs, hr, hE⟩ := h
  exact ⟨cs, Rd.ext hr hX hM (by decide), hE⟩
theorem ask_three_at {cs : List Value} {k : Nat} {a b c : Value} (h : (cs.drop k).take 3 = [a, b, c]) : cs[k]? = some a ∧ cs[k + 1]? = some b ∧ cs[k + 2]? = some c := by
  have g : ∀ j, j < 3 → cs[k + j]? = [a, b, c][j]? := by
    intro j hj
    rw [← h, List.getElem?_take, if_pos hj, List.getElem?_drop]
  exact ⟨g 0 (by omega), g 1 (by omega), g 2 (by omega)⟩
theorem AsksRd.at_ {w : World} {S : Nat → Prop} {p : Option Addr} {c k : Nat} {ts : List Ask} (h : AsksRd w S (.slice p ts.length c) ts) (hk : k < ts.length) :
    ∃ bk off, p = some ⟨bk, off, none⟩ ∧ w.cell? ⟨bk, off + k * 3, none⟩ = some (.int .i64 ts[k].what) ∧ w.cell? ⟨bk, off + k * 3 + 1, none⟩ = some (.int .i64 ts[k].most) ∧ w.cell? ⟨bk, off + k * 3 + 2, none⟩ = some (.int .u64 ts[k].n) := by
  obtain ⟨cs, hr, hE⟩ := h
  obtain ⟨bk, off, he, _, _, hcell⟩ := Rd.addr hr (by omega)
  have hs := hE.2 k ts[k] (List.getElem?_eq_getElem hk)
  obtain ⟨h0, h1, h2⟩ := ask_three_at hs
  exact ⟨bk, off, he, hcell _ _ h0, hcell _ _ h1, hcell _ _ h2⟩

/-- What the walk keeps: the reader, its variable, the calls. -/
structure Fm (w : World) (S : Nat → Prop) (vl : Value) (ts : List Ask) (a g : Nat) (s : RS) (W : World) : Prop where
  bel : Below w.heap.size w W
  ts : AsksRd W S vl ts
  rd : RdAt W w.heap.size a s
  k : Blk W g 42 #[.pointer (some ⟨a, 0, none⟩)]
  la : w.heap.size ≤ a
  ag : a < g
section
variable {w W W' : World} {S : Nat → Prop} {vl : Value} {ts : List Ask} {a g : Nat} {s s' : RS}
theorem Fm.below (h : Fm w S vl ts a g s W) (hX : Below W.heap.size W W') : Fm w S vl ts a g s W' :=
  ⟨h.bel.trans (hX.mono h.bel.size), h.ts.below hX, h.rd.below hX, h.k.below hX, h.la, h.ag⟩
theorem Fm.read (h : Fm w S vl ts a g s W) (hX : Ext (fun k => k = a) W W') (hr : RdAt W' w.heap.size a s') (hS : ∀ k, S k → k < w.heap.size) : Fm w S vl ts a g s' W' := by
  have ha := h.ag
  have hl := h.la
  exact ⟨Ext.from h.bel hX (fun g e => by have : g = a := e; omega), h.ts.ext hX (fun g x e => by have := hS g x; have : g = a := e; omega), hr, h.k.ext hX (by show ¬ g = a; omega), h.la, h.ag⟩
end

set_option maxHeartbeats 12000000 in
set_option maxRecDepth 100000 in
theorem fails_walk {w : World} {S T : Nat → Prop} {v vl : Value} {b0 : List UInt8} {ts : List Ask} {n : Int} (h : CmdRd w T v b0) (hl : AsksRd w S vl ts) (hok : AsksOk ts) (hS : ∀ k, S k → k < w.heap.size) (hn0 : 0 ≤ n) (hn1 : n ≤ 255) :
    Calls Try.prog 5 #[v, vl, .int .u8 n] w fun x w' => x = .returned (.bool true) ∧ Below w.heap.size w w' := by
  have hlen := Rd.le h
  obtain ⟨cs, hr, -⟩ := id hl
  have hlen2 := Rd.le hr
  unfold maxLen at hlen hlen2
  obtain ⟨p, c, rfl⟩ := h.slice
  obtain ⟨q, d, rfl⟩ := Rd.slice hr
  have hcb : b0.length ≤ c := by obtain ⟨_, _, _, h, h1, _⟩ := h; injection h with _ _ h; omega
  obtain ⟨b, hb, hb3, hbl⟩ : ∃ b, b0.take 300 = b ∧ b.length ≤ 300 ∧ b.length ≤ b0.length := ⟨_, rfl, by rw [List.length_take]; omega, by rw [List.length_take]; omega⟩
  have hm : (if (300 : Int) < (b0.length : Int) then (300 : Int) else (b0.length : Int)) = (b.length : Int) := by rw [← hb, List.length_take]; split <;> omega
  have hf := h.front hbl
  rw [show b0.take b.length = b from by rw [← hb, List.length_take, ← List.take_take, List.take_length]] at hf
  have HF := Lib.hid hf
  have HL := Lib.hid hl
  have Hok := Lib.hid hok
  clear h hl hf hb hok hr
  go_enter Try.func5, Try.ntmps5
  go_wp2_with fail
  clear hm
  refine (rd_New HF.out (by omega)).mono ?_
  rintro x w1 ⟨a, rfl, hr, hla, hlt, hX⟩
  have hk := (Below.refl w1.heap.size w1).alloc (Nat.le_refl _) (.cells #[.pointer (some ⟨a, 0, none⟩)] 42)
  have hfm : Fm w S (.slice q ts.length d) ts a w1.heap.size ⟨b, 0⟩ (w1.alloc (.cells #[.pointer (some ⟨a, 0, none⟩)] 42)) :=
    ⟨hX.trans (hk.mono hX.size), (AsksRd.below HL.out hX).below hk, hr.below hk, Blk.new _ _ _, hla, hlt⟩
  have HS := Lib.hid hfm
  clear hfm hr hX hk HF HL
  obtain ⟨g, hg⟩ : ∃ g, w1.heap.size = g := ⟨_, rfl⟩
  rw [hg] at HS
  go_wp2_with fail
  clear hg
  go_loopw [25] (fun i wr => ∃ (k : Nat) (s : RS), k ≤ ts.length ∧ k ≤ 30 ∧ i = .int .i64 k ∧ s.b.length ≤ 300 ∧ Fm w S (.slice q ts.length d) ts a g s wr) (fun i _ => ts.length - (intOf i).toNat)
  case atStart => exact ⟨0, ⟨b, 0⟩, Nat.zero_le _, Nat.zero_le _, rfl, hb3, HS.out⟩
  case round =>
    clear HS hlt
    obtain ⟨k, s, hk, hk30, rfl, hsl, hfm⟩ := hrel
    have HS := Lib.hid hfm
    clear hfm
    by_cases hlt2 : k < ts.length
    · obtain ⟨bk, off, he, e0, e1, e2⟩ := HS.out.ts.at_ hlt2
      subst he
      have hmo := Hok.out ts[k] (List.getElem_mem hlt2)
      generalize ts[k]'hlt2 = t at *
      obtain ⟨what, most, m⟩ := t
      simp only at e0 e1 e2 hmo
      have hX := (Below.refl wr.heap.size wr).alloc (Nat.le_refl _) (.cells #[.int .i64 what, .int .i64 most, .int .u64 m] 53)
      have HS1 := Lib.hid (HS.out.below hX)
      obtain ⟨r0, r1, hz⟩ := HS1.out.k.c1
      by_cases h30 : k = 30
      · subst h30
        clear hX HS
        have HS := HS1
        clear HS1
        go_wp2_with fail
        refine (rd_Err HS.out.rd).mono ?_
        rintro x wz ⟨rfl, rfl⟩
        go_wp2_with fail
        refine (rd_Fail (x := 1 + n) HS.out.rd HS.out.la).mono ?_
        rintro x w2 ⟨rfl, hr, hX⟩
        have hrl := rdFail_len s (1 + n)
        by_cases hse : s.e = 0
        · have hs2 : rdFail s (1 + n) = ⟨s.b, 1 + n⟩ := by simp [rdFail, hse]
          rw [hs2] at hr
          have HF := Lib.hid (show Fm w S _ ts a g ⟨s.b, 1 + n⟩ w2 from HS.out.read hX hr hS)
          have hne : (1 + n) ≠ 0 := by omega
          rw [hse]
          clear hs2 hr hX HS r0 r1 hz
          have HNe := Lib.hid hne
          clear hne hrl
          have hself : ((1 + n) != (1 + n)) = false := by simp
          have hself2 : ((1 + n) == (1 + n)) = true := by simp
          go_wp2_with fail
          go_loopw [51] (fun i wr => ∃ (k : Nat), k ≤ ts.length ∧ k ≤ 30 ∧ i = .int .i64 k ∧ Fm w S (.slice (some ⟨bk, off, none⟩) ts.length d) ts a g ⟨s.b, 1 + n⟩ wr) (fun i _ => ts.length - (intOf i).toNat)
          case atStart => exact ⟨0, Nat.zero_le _, Nat.zero_le _, rfl, HF.out⟩
          case round =>
            clear HF
            obtain ⟨k2, hk2, hk230, rfl, hfm2⟩ := hrel
            have HG := Lib.hid hfm2
            clear hfm2
            by_cases hlt3 : k2 < ts.length
            · obtain ⟨bk2, off2, he2, e3, e4, e5⟩ := HG.out.ts.at_ hlt3
              injection he2 with he2
              injection he2 with he2 he3
              subst he2; subst he3
              have hmo2 := Hok.out ts[k2] (List.getElem_mem hlt3)
              generalize ts[k2]'hlt3 = t2 at *
              obtain ⟨what2, most2, m2⟩ := t2
              simp only at e3 e4 e5 hmo2
              have hX := (Below.refl wr.heap.size wr).alloc (Nat.le_refl _) (.cells #[.int .i64 what2, .int .i64 most2, .int .u64 m2] 53)
              have HG1 := Lib.hid (HG.out.below hX)
              obtain ⟨r0, r1, hz⟩ := HG1.out.k.c1
              by_cases h302 : k2 = 30
              · subst h302
                clear hX HG
                go_wp2_with fail
                refine (awake_true).mono ?_
                rintro x w3 ⟨rfl, hX⟩
                have HG2 := Lib.hid (HG1.out.below hX)
                clear hX HG1 r0 r1 hz
                obtain ⟨r0, r1, hz⟩ := HG2.out.k.c1
                go_wp2_with fail
                refine (rd_Err HG2.out.rd).mono ?_
                rintro x wz ⟨rfl, rfl⟩
                go_wp2_with fail
                go_ret
                exact ⟨rfl, HG2.out.bel⟩
              · have h302b : ((k2 : Int) == 30) = false := by simp; omega
                clear hX HG
                go_wp2_with fail
                refine (ask_any HG1.out.rd HG1.out.la hmo2 (by show s.b.length ≤ _; omega) HG1.out.k (by have := HG1.out.ag; omega)).mono ?_
                rintro x w3 ⟨s', rfl, hr, -, hsame, hX⟩
                have hs' := hsame HNe.out
                subst hs'
                have HG2 := Lib.hid (HG1.out.read hX hr hS)
                clear hX hr hsame HG1 r0 r1 hz
                obtain ⟨r0, r1, hz⟩ := HG2.out.k.c1
                go_wp2_with fail
                refine (rd_Err HG2.out.rd).mono ?_
                rintro x wz ⟨rfl, rfl⟩
                go_wp2_with fail
                go_roundw
                case rel => exact ⟨k2 + 1, by omega, by omega, by go_num, HG2.out⟩
                case measure => simp [intOf] <;> omega
            · obtain rfl : k2 = ts.length := by omega
              go_wp2_with fail
              refine (awake_true).mono ?_
              rintro x w3 ⟨rfl, hX⟩
              have HG2 := Lib.hid (HG.out.below hX)
              clear hX HG
              obtain ⟨r0, r1, hz⟩ := HG2.out.k.c1
              go_wp2_with fail
              refine (rd_Err HG2.out.rd).mono ?_
              rintro x wz ⟨rfl, rfl⟩
              go_wp2_with fail
              go_ret
              exact ⟨rfl, HG2.out.bel⟩
        · have hs2 : rdFail s (1 + n) = s := by simp [rdFail, hse]
          rw [hs2] at hr
          have HF := Lib.hid (show Fm w S _ ts a g s w2 from HS.out.read hX hr hS)
          have hne : s.e ≠ 0 := hse
          have t1 : (s.e == 0) = false := by simpa using hse
          clear hs2 hr hX HS r0 r1 hz hse
          have HNe := Lib.hid hne
          clear hne hrl
          have hself : (s.e != s.e) = false := by simp
          have hself2 : (s.e == s.e) = true := by simp
          go_wp2_with fail
          go_loopw [51] (fun i wr => ∃ (k : Nat), k ≤ ts.length ∧ k ≤ 30 ∧ i = .int .i64 k ∧ Fm w S (.slice (some ⟨bk, off, none⟩) ts.length d) ts a g s wr) (fun i _ => ts.length - (intOf i).toNat)
          case atStart => exact ⟨0, Nat.zero_le _, Nat.zero_le _, rfl, HF.out⟩
          case round =>
            clear HF
            obtain ⟨k2, hk2, hk230, rfl, hfm2⟩ := hrel
            have HG := Lib.hid hfm2
            clear hfm2
            by_cases hlt3 : k2 < ts.length
            · obtain ⟨bk2, off2, he2, e3, e4, e5⟩ := HG.out.ts.at_ hlt3
              injection he2 with he2
              injection he2 with he2 he3
              subst he2; subst he3
              have hmo2 := Hok.out ts[k2] (List.getElem_mem hlt3)
              generalize ts[k2]'hlt3 = t2 at *
              obtain ⟨what2, most2, m2⟩ := t2
              simp only at e3 e4 e5 hmo2
              have hX := (Below.refl wr.heap.size wr).alloc (Nat.le_refl _) (.cells #[.int .i64 what2, .int .i64 most2, .int .u64 m2] 53)
              have HG1 := Lib.hid (HG.out.below hX)
              obtain ⟨r0, r1, hz⟩ := HG1.out.k.c1
              by_cases h302 : k2 = 30
              · subst h302
                clear hX HG
                go_wp2_with fail
                refine (awake_true).mono ?_
                rintro x w3 ⟨rfl, hX⟩
                have HG2 := Lib.hid (HG1.out.below hX)
                clear hX HG1 r0 r1 hz
                obtain ⟨r0, r1, hz⟩ := HG2.out.k.c1
                go_wp2_with fail
                refine (rd_Err HG2.out.rd).mono ?_
                rintro x wz ⟨rfl, rfl⟩
                go_wp2_with fail
                go_ret
                exact ⟨rfl, HG2.out.bel⟩
              · have h302b : ((k2 : Int) == 30) = false := by simp; omega
                clear hX HG
                go_wp2_with fail
                refine (ask_any HG1.out.rd HG1.out.la hmo2 (by show s.b.length ≤ _; omega) HG1.out.k (by have := HG1.out.ag; omega)).mono ?_
                rintro x w3 ⟨s', rfl, hr, -, hsame, hX⟩
                have hs' := hsame HNe.out
                subst hs'
                have HG2 := Lib.hid (HG1.out.read hX hr hS)
                clear hX hr hsame HG1 r0 r1 hz
                obtain ⟨r0, r1, hz⟩ := HG2.out.k.c1
                go_wp2_with fail
                refine (rd_Err HG2.out.rd).mono ?_
                rintro x wz ⟨rfl, rfl⟩
                go_wp2_with fail
                go_roundw
                case rel => exact ⟨k2 + 1, by omega, by omega, by go_num, HG2.out⟩
                case measure => simp [intOf] <;> omega
            · obtain rfl : k2 = ts.length := by omega
              go_wp2_with fail
              refine (awake_true).mono ?_
              rintro x w3 ⟨rfl, hX⟩
              have HG2 := Lib.hid (HG.out.below hX)
              clear hX HG
              obtain ⟨r0, r1, hz⟩ := HG2.out.k.c1
              go_wp2_with fail
              refine (rd_Err HG2.out.rd).mono ?_
              rintro x wz ⟨rfl, rfl⟩
              go_wp2_with fail
              go_ret
              exact ⟨rfl, HG2.out.bel⟩
      · have h30b : ((k : Int) == 30) = false := by simp; omega
        have HX := Lib.hid hX
        clear hX HS
        go_wp2_with fail
        refine (ask_any HS1.out.rd HS1.out.la hmo (by omega) HS1.out.k (by have := HS1.out.ag; omega)).mono ?_
        rintro x w2 ⟨s', rfl, hr, hsl', -, hX⟩
        have HS2 := Lib.hid (HS1.out.read hX hr hS)
        clear hX hr HS1 r0 r1 hz
        go_wp2_with fail
        go_roundw
        case rel => exact ⟨k + 1, s', by omega, by omega, by go_num, by omega, HS2.out⟩
        case measure => simp [intOf] <;> omega
    · obtain rfl : k = ts.length := by omega
      obtain ⟨r0, r1, hz⟩ := HS.out.k.c1
      go_wp2_with fail
      refine (rd_Err HS.out.rd).mono ?_
      rintro x wz ⟨rfl, rfl⟩
      go_wp2_with fail
      refine (rd_Fail (x := 1 + n) HS.out.rd HS.out.la).mono ?_
      rintro x w2 ⟨rfl, hr, hX⟩
      have hrl := rdFail_len s (1 + n)
      by_cases hse : s.e = 0
      · have hs2 : rdFail s (1 + n) = ⟨s.b, 1 + n⟩ := by simp [rdFail, hse]
        rw [hs2] at hr
        have HF := Lib.hid (show Fm w S _ ts a g ⟨s.b, 1 + n⟩ w2 from HS.out.read hX hr hS)
        have hne : (1 + n) ≠ 0 := by omega
        rw [hse]
        clear hs2 hr hX HS r0 r1 hz
        have HNe := Lib.hid hne
        clear hne hrl
        have hself : ((1 + n) != (1 + n)) = false := by simp
        have hself2 : ((1 + n) == (1 + n)) = true := by simp
        go_wp2_with fail
        go_loopw [51] (fun i wr => ∃ (k : Nat), k ≤ ts.length ∧ k ≤ 30 ∧ i = .int .i64 k ∧ Fm w S (.slice q ts.length d) ts a g ⟨s.b, 1 + n⟩ wr) (fun i _ => ts.length - (intOf i).toNat)
        case atStart => exact ⟨0, Nat.zero_le _, Nat.zero_le _, rfl, HF.out⟩
        case round =>
          clear HF
          obtain ⟨k2, hk2, hk230, rfl, hfm2⟩ := hrel
          have HG := Lib.hid hfm2
          clear hfm2
          by_cases hlt3 : k2 < ts.length
          · obtain ⟨bk2, off2, he2, e3, e4, e5⟩ := HG.out.ts.at_ hlt3
            subst he2
            have hmo2 := Hok.out ts[k2] (List.getElem_mem hlt3)
            generalize ts[k2]'hlt3 = t2 at *
            obtain ⟨what2, most2, m2⟩ := t2
            simp only at e3 e4 e5 hmo2
            have hX := (Below.refl wr.heap.size wr).alloc (Nat.le_refl _) (.cells #[.int .i64 what2, .int .i64 most2, .int .u64 m2] 53)
            have HG1 := Lib.hid (HG.out.below hX)
            obtain ⟨r0, r1, hz⟩ := HG1.out.k.c1
            by_cases h302 : k2 = 30
            · exfalso; omega
            · have h302b : ((k2 : Int) == 30) = false := by simp; omega
              clear hX HG
              go_wp2_with fail
              refine (ask_any HG1.out.rd HG1.out.la hmo2 (by show s.b.length ≤ _; omega) HG1.out.k (by have := HG1.out.ag; omega)).mono ?_
              rintro x w3 ⟨s', rfl, hr, -, hsame, hX⟩
              have hs' := hsame HNe.out
              subst hs'
              have HG2 := Lib.hid (HG1.out.read hX hr hS)
              clear hX hr hsame HG1 r0 r1 hz
              obtain ⟨r0, r1, hz⟩ := HG2.out.k.c1
              go_wp2_with fail
              refine (rd_Err HG2.out.rd).mono ?_
              rintro x wz ⟨rfl, rfl⟩
              go_wp2_with fail
              go_roundw
              case rel => exact ⟨k2 + 1, by omega, by omega, by go_num, HG2.out⟩
              case measure => simp [intOf] <;> omega
          · obtain rfl : k2 = ts.length := by omega
            go_wp2_with fail
            refine (awake_true).mono ?_
            rintro x w3 ⟨rfl, hX⟩
            have HG2 := Lib.hid (HG.out.below hX)
            clear hX HG
            obtain ⟨r0, r1, hz⟩ := HG2.out.k.c1
            go_wp2_with fail
            refine (rd_Err HG2.out.rd).mono ?_
            rintro x wz ⟨rfl, rfl⟩
            go_wp2_with fail
            go_ret
            exact ⟨rfl, HG2.out.bel⟩
      · have hs2 : rdFail s (1 + n) = s := by simp [rdFail, hse]
        rw [hs2] at hr
        have HF := Lib.hid (show Fm w S _ ts a g s w2 from HS.out.read hX hr hS)
        have hne : s.e ≠ 0 := hse
        have t1 : (s.e == 0) = false := by simpa using hse
        clear hs2 hr hX HS r0 r1 hz hse
        have HNe := Lib.hid hne
        clear hne hrl
        have hself : (s.e != s.e) = false := by simp
        have hself2 : (s.e == s.e) = true := by simp
        go_wp2_with fail
        go_loopw [51] (fun i wr => ∃ (k : Nat), k ≤ ts.length ∧ k ≤ 30 ∧ i = .int .i64 k ∧ Fm w S (.slice q ts.length d) ts a g s wr) (fun i _ => ts.length - (intOf i).toNat)
        case atStart => exact ⟨0, Nat.zero_le _, Nat.zero_le _, rfl, HF.out⟩
        case round =>
          clear HF
          obtain ⟨k2, hk2, hk230, rfl, hfm2⟩ := hrel
          have HG := Lib.hid hfm2
          clear hfm2
          by_cases hlt3 : k2 < ts.length
          · obtain ⟨bk2, off2, he2, e3, e4, e5⟩ := HG.out.ts.at_ hlt3
            subst he2
            have hmo2 := Hok.out ts[k2] (List.getElem_mem hlt3)
            generalize ts[k2]'hlt3 = t2 at *
            obtain ⟨what2, most2, m2⟩ := t2
            simp only at e3 e4 e5 hmo2
            have hX := (Below.refl wr.heap.size wr).alloc (Nat.le_refl _) (.cells #[.int .i64 what2, .int .i64 most2, .int .u64 m2] 53)
            have HG1 := Lib.hid (HG.out.below hX)
            obtain ⟨r0, r1, hz⟩ := HG1.out.k.c1
            by_cases h302 : k2 = 30
            · exfalso; omega
            · have h302b : ((k2 : Int) == 30) = false := by simp; omega
              clear hX HG
              go_wp2_with fail
              refine (ask_any HG1.out.rd HG1.out.la hmo2 (by show s.b.length ≤ _; omega) HG1.out.k (by have := HG1.out.ag; omega)).mono ?_
              rintro x w3 ⟨s', rfl, hr, -, hsame, hX⟩
              have hs' := hsame HNe.out
              subst hs'
              have HG2 := Lib.hid (HG1.out.read hX hr hS)
              clear hX hr hsame HG1 r0 r1 hz
              obtain ⟨r0, r1, hz⟩ := HG2.out.k.c1
              go_wp2_with fail
              refine (rd_Err HG2.out.rd).mono ?_
              rintro x wz ⟨rfl, rfl⟩
              go_wp2_with fail
              go_roundw
              case rel => exact ⟨k2 + 1, by omega, by omega, by go_num, HG2.out⟩
              case measure => simp [intOf] <;> omega
          · obtain rfl : k2 = ts.length := by omega
            go_wp2_with fail
            refine (awake_true).mono ?_
            rintro x w3 ⟨rfl, hX⟩
            have HG2 := Lib.hid (HG.out.below hX)
            clear hX HG
            obtain ⟨r0, r1, hz⟩ := HG2.out.k.c1
            go_wp2_with fail
            refine (rd_Err HG2.out.rd).mono ?_
            rintro x wz ⟨rfl, rfl⟩
            go_wp2_with fail
            go_ret
            exact ⟨rfl, HG2.out.bel⟩
end Go.Proofs.Ytgmlgdfgooacbaa
