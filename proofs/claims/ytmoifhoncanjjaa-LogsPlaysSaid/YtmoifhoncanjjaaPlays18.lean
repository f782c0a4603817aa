/-
  LogsPlays' walk: it returns true. (Printed by wip/gen_plays18.py.)
-/
import Derived.Test.YtmoifhoncanjjaaAct18
import Derived.Deep.DeepCutAuto
import Derived.Deep.CutBlock
namespace Go.Proofs.Ytmoifhoncanjjaa
open Go.RowKit
set_option linter.unusedSimpArgs false
set_option linter.unusedVariables false

theorem EntsN.front {w : World} {S : Nat → Prop} {p : Option Addr} {c k : Nat} {es x : List Ent} (h : EntsN w S (.slice p es.length c) es) (hx : es.take k = x) : EntsN w S (.slice p x.length c) x ∧ x.length ≤ k ∧ x.length ≤ es.length := by
  subst hx
  rw [List.length_take]
  refine ⟨?_, by omega, by omega⟩
  obtain ⟨cs, hr, hE⟩ := h
  rcases Nat.le_total k es.length with hk | hk
  · rw [Nat.min_eq_left hk]
    exact ⟨cs.take (k * 4), by rw [List.length_take, Nat.min_eq_left hk]; exact Rd.front hr hk, hE.take k⟩
  · rw [Nat.min_eq_right hk, List.take_of_length_le hk]
    exact ⟨cs, hr, hE⟩

/-- Both logs tell the same; the base is below N. -/
def Good (n0 : Nat) (w : World) (b rb : Nat) (m : Int) (es : List Ent) (N : Int) : Prop := (∃ S, PS n0 S w b rb m es m es) ∧ LogOk m es ∧ m ≤ N
theorem Good.below {n0 b rb : Nat} {w w' : World} {m N : Int} {es : List Ent} (h : Good n0 w b rb m es N) (hb : Below w.heap.size w w') : Good n0 w' b rb m es N := ⟨h.1.imp fun _ h => h.below hb, h.2⟩
theorem Good.mono {n0 b rb : Nat} {w : World} {m N N' : Int} {es : List Ent} (h : Good n0 w b rb m es N) (hN : N ≤ N') : Good n0 w b rb m es N' := ⟨h.1, h.2.1, by have := h.2.2; omega⟩
theorem Good.new {w0 w1 w2 : World} {b : Nat} {m N : Int} {es : List Ent} (hn : NewLog w0 b m es w1) (hR : RLog w2 (fun k => w1.heap.size + 1 ≤ k ∧ k < w2.heap.size) w1.heap.size m es) (hb : Below w1.heap.size w1 w2) (ok : LogOk m es) (hN : m ≤ N) : Good w0.heap.size w2 b w1.heap.size m es N := by
  obtain ⟨hL, h1, h2, hX⟩ := hn
  have z1 := hX.size
  have z2 := hb.size
  have l2 := hR.lt
  refine ⟨⟨fun j => (w0.heap.size ≤ j ∧ j < b) ∨ (w1.heap.size + 1 ≤ j ∧ j < w2.heap.size), by omega, by omega, by omega, by omega, (hL.below hb).weak (fun j hj _ => .inl hj) (by omega), hR.weak (fun j hj _ => .inr hj) (by omega), fun j hj => by omega, fun j hj => by omega⟩, ok, hN⟩
/-- What a round keeps beside the logs: the call's own copy. -/
structure Side (w : World) (A b rb : Nat) (what n : Int) (e : Ent) (qa : Option Addr) (da : Nat) (W : World) : Prop where
  X : Below w.heap.size w W
  kA : Blk W A 55 #[.int .i64 what, .int .u64 e.t, .int .u32 e.c, .int .u64 e.r, .slice qa e.cmd.length da, .int .i8 n]
  q : CmdN W (fun j => j < w.heap.size) (.slice qa e.cmd.length da) e.cmd
  ne : A ≠ b ∧ A ≠ rb ∧ w.heap.size ≤ b ∧ w.heap.size ≤ rb ∧ w.heap.size ≤ A
theorem Side.below {w W W' : World} {A b rb : Nat} {what n : Int} {e : Ent} {qa : Option Addr} {da : Nat} (h : Side w A b rb what n e qa da W) (hb : Below W.heap.size W W') : Side w A b rb what n e qa da W' :=
  ⟨h.X.trans (hb.mono h.X.size), h.kA.below hb, h.q.keep (fun k hk _ => hb.block k hk) (fun _ h _ => h), h.ne⟩
theorem Side.ext {w W W' : World} {A b rb : Nat} {what n : Int} {e : Ent} {qa : Option Addr} {da : Nat} {M : Nat → Prop} (h : Side w A b rb what n e qa da W) (hE : Ext M W W') (hM : ∀ j, M j → w.heap.size ≤ j ∧ j ≠ A) : Side w A b rb what n e qa da W' :=
  ⟨Ext.from h.X hE (fun j hj => (hM j hj).1), h.kA.ext hE (fun hj => (hM A hj).2 rfl), h.q.keep (fun k hk hS => hE.block k hk (fun hj => by have := (hM k hj).1; omega)) (fun _ h _ => h), h.ne⟩
theorem Side.to {w W : World} {A b rb b2 : Nat} {what n : Int} {e : Ent} {qa : Option Addr} {da : Nat} (h : Side w A b rb what n e qa da W) (hb : A < b2 ∧ w.heap.size ≤ b2) : Side w A b2 rb what n e qa da W := ⟨h.X, h.kA, h.q, by omega, h.ne.2.1, hb.2, h.ne.2.2.2⟩

/-- A log that is let go: its contracts, in short. -/
def Yl (w : World) (b : Nat) (m : Int) (es : List Ent) : Prop := (∃ S, LogAt w S b m es ∧ ∀ j, S j → j < w.heap.size) ∧ LogOk m es
theorem Yl.below {w w' : World} {b : Nat} {m : Int} {es : List Ent} (h : Yl w b m es) (hb : Below w.heap.size w w') : Yl w' b m es := ⟨h.1.imp fun _ h => ⟨h.1.below hb, fun j hj => Nat.lt_of_lt_of_le (h.2 j hj) hb.size⟩, h.2⟩
theorem Did.yl {w w' : World} {S : Nat → Prop} {b : Nat} {m : Int} {es : List Ent} (h : Did S b m es w w') (ok : LogOk m es) : Yl w' b m es := ⟨⟨_, h.1, More.lt h.2.size⟩, ok⟩
theorem Yl.app {w : World} {T : Nat → Prop} {b : Nat} {m : Int} {es : List Ent} {e : Ent} {s : Value} (h : Yl w b m es) (hs : CmdRd w T s e.cmd) (he : e.cmd.length ≤ 140737488355328) :
    Calls Try.prog 8 #[.pointer (some ⟨b, 0, none⟩), entVal e s] w fun x w' => (∃ a r, x = .returned (.tuple #[.int .u64 a, .int .i64 r])) ∧ Yl w' b m (appL es e) ∧ Ext (fun x => x = b) w w' := by
  obtain ⟨⟨S, hL, hz⟩, ok⟩ := h
  exact (log_App hL ok hz hs he).mono fun x w' ⟨h1, h2⟩ => ⟨⟨_, _, h1⟩, h2.yl (appL_ok ok he), h2.2⟩
theorem Yl.cut {w : World} {b : Nat} {m op : Int} {es : List Ent} (h : Yl w b m es) (hm : m ≤ 4611686018427380000) :
    Calls Try.prog 11 #[.pointer (some ⟨b, 0, none⟩), .int .u64 op] w fun x w' => (∃ r, x = .returned (.int .i64 r)) ∧ (∃ m' es', Yl w' b m' es') ∧ Ext (fun x => x = b) w w' := by
  obtain ⟨⟨S, hL, hz⟩, ok⟩ := h
  exact (log_CutA hL ok hz).mono fun x w' ⟨h1, h2⟩ => ⟨⟨_, h1⟩, ⟨_, _, h2.yl (cutL_ok ok op hm)⟩, h2.2⟩
theorem Yl.trim {w : World} {b : Nat} {m op : Int} {es : List Ent} (h : Yl w b m es) :
    Calls Try.prog 12 #[.pointer (some ⟨b, 0, none⟩), .int .u64 op] w fun x w' => (∃ r, x = .returned (.int .i64 r)) ∧ Ext (fun x => x = b) w w' := by
  obtain ⟨⟨S, hL, hz⟩, ok⟩ := h
  exact (log_TrimA hL ok hz).mono fun x w' ⟨h1, h2⟩ => ⟨⟨_, h1⟩, h2.2⟩
/-- Both logs, while a third is turned. -/
def GoodX (n0 : Nat) (w : World) (b rb yb : Nat) (m : Int) (es : List Ent) (N : Int) : Prop := (∃ S, PS n0 S w b rb m es m es ∧ ¬ S yb ∧ yb ≠ b ∧ yb ≠ rb) ∧ LogOk m es ∧ m ≤ N
section
variable {n0 b rb yb : Nat} {w w' : World} {m N : Int} {es : List Ent}
theorem GoodX.good (h : GoodX n0 w b rb yb m es N) : Good n0 w b rb m es N := ⟨h.1.imp fun _ h => h.1, h.2⟩
theorem GoodX.below (h : GoodX n0 w b rb yb m es N) (hb : Below w.heap.size w w') : GoodX n0 w' b rb yb m es N := ⟨h.1.imp fun _ h => ⟨h.1.below hb, h.2⟩, h.2⟩
theorem GoodX.ext (h : GoodX n0 w b rb yb m es N) (hE : Ext (fun x => x = yb) w w') : GoodX n0 w' b rb yb m es N := by
  obtain ⟨⟨S, h1, h2, h3, h4⟩, h5⟩ := h
  refine ⟨⟨S, h1.spoil hE (fun j hj => ?_), h2, h3, h4⟩, h5⟩
  subst hj
  exact ⟨h2, h3, h4⟩
theorem GoodX.old {b2 : Nat} (h : Good n0 w b rb m es N) (hn : NewLog w b2 m es w') : GoodX n0 w' b2 rb b m es N := by
  obtain ⟨⟨S, hP⟩, h2⟩ := h
  have := hP.L.lt
  exact ⟨⟨_, hP.copy hn, fun hh => More.nb hP.L.nS hP.L.lt hh.2, by have := hn.2.1; omega, hP.ne⟩, h2⟩
theorem GoodX.new_ {b2 : Nat} (h : Good n0 w b rb m es N) (hn : NewLog w b2 m es w') : GoodX n0 w' b rb b2 m es N := by
  obtain ⟨⟨S, hP⟩, h2⟩ := h
  have h1 := hP.L.lt
  have h3 := hP.R.lt
  have h4 := hn.2.1
  exact ⟨⟨S, hP.below hn.2.2.2, fun hh => by have := hP.hi _ hh; omega, by omega, by omega⟩, h2⟩
theorem Yl.old {b2 : Nat} (h : Good n0 w b rb m es N) (hn : NewLog w b2 m es w') : Yl w' b m es := by
  obtain ⟨⟨S, hP⟩, h2⟩ := h
  exact ⟨⟨S, hP.L.below hn.2.2.2, fun j hj => Nat.lt_of_lt_of_le (hP.hi j hj) hn.2.2.2.size⟩, h2.1⟩
theorem Yl.new_ {b2 : Nat} (ok : LogOk m es) (hn : NewLog w b2 m es w') : Yl w' b2 m es := ⟨⟨_, hn.1, fun j hj => by have := hn.2.2.1; omega⟩, ok⟩
end
theorem Blk.c6 {w : World} {g : Nat} {t : TypeId} {a b c d e f : Value} (h : Blk w g t #[a, b, c, d, e, f]) : w.cell? ⟨g, 0, none⟩ = some a ∧ w.cell? ⟨g, 1, none⟩ = some b ∧ w.cell? ⟨g, 2, none⟩ = some c ∧ w.cell? ⟨g, 3, none⟩ = some d ∧ w.cell? ⟨g, 4, none⟩ = some e ∧ w.cell? ⟨g, 5, none⟩ = some f ∧ g < w.heap.size :=
  ⟨h.cell 0, h.cell 1, h.cell 2, h.cell 3, h.cell 4, h.cell 5, h.lt⟩

set_option maxHeartbeats 25600000 in
set_option maxRecDepth 100000 in
theorem plays_walk {w : World} {v v2 : Value} {m0 ask : Int} {first : List Ent} {ops : List Opn} (ht : EntsN w (fun j => j < w.heap.size) v first) (hf : Fits first) (ha : OpsRd w (fun j => j < w.heap.size) v2 ops) (hok : OpsOk ops) (hm0 : 0 ≤ m0) (hm1 : m0 < 18446744073709551616) :
    Calls Try.prog 5 #[.int .u64 m0, v, v2, .int .i8 ask] w fun e w' => e = .returned (.bool true) ∧ Below w.heap.size w w' := by
  obtain ⟨p, c, rfl⟩ : ∃ p c, v = .slice p first.length c := by obtain ⟨_, hr, _⟩ := ht; exact Rd.slice hr
  obtain ⟨p2, c2, rfl⟩ : ∃ p c, v2 = .slice p ops.length c := by obtain ⟨_, hr, _⟩ := ha; exact Rd.slice hr
  have hlc : first.length ≤ c := by obtain ⟨_, ⟨_, _, _, h, h1, _⟩, _⟩ := ht; injection h with _ _ h; omega
  have hlc2 : c ≤ maxLen := by obtain ⟨_, ⟨_, _, _, h, _, h1, _⟩, _⟩ := ht; injection h with _ _ h; omega
  have hla : ops.length ≤ maxLen := by obtain ⟨_, hr, _⟩ := ha; exact Rd.le hr
  unfold maxLen at hlc2 hla
  obtain ⟨x, hx⟩ : ∃ x, first.take 70 = x := ⟨_, rfl⟩
  obtain ⟨hr0, hx70, hxl⟩ := ht.front hx
  have hfx : Fits x := hx ▸ hf.take 70
  have hm : (if (70 : Int) < (first.length : Int) then (70 : Int) else (first.length : Int)) = (x.length : Int) := by rw [← hx, List.length_take]; split <;> omega
  have hxc : (x.length : Int) ≤ (c : Int) := by omega
  have H := Lib.hid hr0
  have Hf := Lib.hid hfx
  have Ha := Lib.hid ha
  have Hok := Lib.hid hok
  clear hr0 ht ha hok hf hfx
  by_cases hmm : m0 ≤ 1099511627776
  · by_cases hn : x.length ≤ 64
    · have hxf : x = first := by
        have : first.length ≤ 70 := by omega
        rw [← hx, List.take_of_length_le this]
      subst hxf
      have ok0 : LogOk m0 x := ⟨Hf.out, hn, hm0, by omega⟩
      clear hx hm hxl hx70 hxc
      have Hok0 := Lib.hid ok0
      clear ok0
      go_enter Try.func5, Try.ntmps5
      go_wp2_with fail
      refine (log_New H.out.rd Hf.out hn hmm).mono ?_
      rintro _ w1 ⟨b, rfl, hN⟩
      have HN := Lib.hid hN
      have hb1 := hN.2.2.2
      have Hb1 := Lib.hid hb1
      have Hq1 := Lib.hid (H.out.keep (fun k hk _ => hb1.block k hk) (fun _ h _ => h))
      clear hN hb1
      go_wp2_with fail
      refine (ref_New Hq1.out Hf.out hn hm0 hmm).mono ?_
      rintro _ w2 ⟨rfl, hR, hb2⟩
      have HG := Lib.hid (Good.new HN.out hR hb2 Hok0.out hmm)
      have HX := Lib.hid (Hb1.out.trans (hb2.mono Hb1.out.size))
      clear hR hb2 HN Hb1 Hq1 H Hf Hok0
      generalize w1.heap.size = rb at *
      go_wp2_with fail
      go_loopw [9, 13] (fun xv i wr => ∃ (k b : Nat) (m : Int) (es : List Ent), k ≤ ops.length ∧ k ≤ 100 ∧ xv = .pointer (some ⟨b, 0, none⟩) ∧ i = .int .i64 k ∧ Hid (Good w.heap.size wr b rb m es (1099511627776 + 64 * k) ∧ Below w.heap.size w wr)) (fun _ i _ => ops.length - (intOf i).toNat)
      case atStart => exact ⟨0, b, m0, x, Nat.zero_le _, Nat.zero_le _, rfl, rfl, Lib.hid ⟨HG.out.mono (by omega), HX.out⟩⟩
      case round =>
        obtain ⟨k, b, m, es, hk, hk100, rfl, rfl, hR⟩ := hrel
        by_cases hlt : k < ops.length
        · by_cases h100 : k = 100
          · subst h100
            go_wp2_with fail
            refine wakes_true.mono ?_
            rintro _ w4 ⟨rfl, hX⟩
            have HX4 := Lib.hid (hR.out.2.trans (hX.mono hR.out.2.size))
            clear hX
            go_wp2_with fail
            go_ret
            exact ⟨rfl, HX4.out⟩
          · have hk1 : k < 100 := by omega
            obtain ⟨bk, off, qa, da, he, e0, e1, e2, e3, e4, e5, hq, hac⟩ := OpsRd.at_ (Ha.out.below hR.out.2) hlt
            subst he
            have hint := Hok.out ops[k] (List.getElem_mem hlt)
            generalize ops[k]'hlt = ac at *
            obtain ⟨what, e, n⟩ := ac
            simp only at e0 e1 e2 e3 e4 e5 hq hint
            have hbA := (Below.refl wr.heap.size wr).alloc (Nat.le_refl _) (.cells #[.int .i64 what, .int .u64 e.t, .int .u32 e.c, .int .u64 e.r, .slice qa e.cmd.length da, .int .i8 n] 55)
            have kA := Blk.new wr 55 #[.int .i64 what, .int .u64 e.t, .int .u32 e.c, .int .u64 e.r, .slice qa e.cmd.length da, .int .i8 n]
            have hne : wr.heap.size ≠ b ∧ wr.heap.size ≠ rb ∧ w.heap.size ≤ b ∧ w.heap.size ≤ rb ∧ w.heap.size ≤ wr.heap.size := by
              obtain ⟨⟨S, hP⟩, -⟩ := hR.out.1
              have := hP.L.lt
              have := hP.R.lt
              exact ⟨by omega, by omega, hP.hb, hP.hrb, hR.out.2.size⟩
            have HG := Lib.hid (hR.out.1.below hbA)
            have HS := Lib.hid (show Side w wr.heap.size b rb what n e qa da (wr.alloc (.cells #[.int .i64 what, .int .u64 e.t, .int .u32 e.c, .int .u64 e.r, .slice qa e.cmd.length da, .int .i8 n] 55)) from ⟨hR.out.2.trans (hbA.mono hR.out.2.size), kA, hq.keep (fun k hk _ => hbA.block k hk) (fun _ h _ => h), hne⟩)
            obtain ⟨rp, rc, kR⟩ : ∃ rp rc, Blk (wr.alloc (.cells #[.int .i64 what, .int .u64 e.t, .int .u32 e.c, .int .u64 e.r, .slice qa e.cmd.length da, .int .i8 n] 55)) rb 58 #[.int .u64 m, .slice rp es.length rc] := by
              obtain ⟨⟨S, hP⟩, -⟩ := HG.out
              obtain ⟨rp, rc, h, -⟩ := hP.R
              exact ⟨rp, rc, h⟩
            have Hint := Lib.hid hint
            have HA := Lib.hid kA
            have HkR := Lib.hid kR
            clear hR hq hint hbA kA hne kR h100
            go_upto_region 13 with fail
            generalize wr.alloc (.cells #[.int .i64 what, .int .u64 e.t, .int .u32 e.c, .int .u64 e.r, .slice qa e.cmd.length da, .int .i8 n] 55) = W at *
            generalize wr.heap.size = A at *
            have c5 := HA.out.cell 5
            have r0 := HkR.out.cell 0
            have c0 := HA.out.cell 0
            simp only [List.getElem?_toArray, List.getElem?_cons_succ, List.getElem?_cons_zero] at c5 r0 c0
            have hzr := HkR.out.lt
            go_region
            go_upto_block 2 with fail
            have HG1 := Lib.hid (HG.out.below (Below.refl _ W).drew)
            have HS1 := Lib.hid (HS.out.below (Below.refl _ W).drew)
            clear c5 r0 c0 hzr HG HS HA HkR
            generalize W.drew = V at *
            go_cut [9, 15] (fun xv rv wx => ∃ (b : Nat) (m : Int) (es : List Ent), xv = .pointer (some ⟨b, 0, none⟩) ∧ rv = .bool true ∧ Hid (Good w.heap.size wx b rb m es (1099511627776 + 64 * (k + 1)) ∧ Side w A b rb what n e qa da wx))
            case first =>
              go_upto_if 78 with fail
              go_cut [78] (fun tv wx => tv = .bool (decide (0 ≤ what ∧ what ≤ 4)) ∧ wx = V)
              case first =>
                by_cases h0 : what = 0
                · subst h0
                  go_wp2_with fail
                  go_meet
                  case rel => exact ⟨rfl, rfl⟩
                · have g0 : (what == (0 : Int)) = false := by simpa using h0
                  by_cases h1 : what = 1
                  · subst h1
                    go_wp2_with fail
                    go_meet
                    case rel => exact ⟨rfl, rfl⟩
                  · have g1 : (what == (1 : Int)) = false := by simpa using h1
                    by_cases h2 : what = 2
                    · subst h2
                      go_wp2_with fail
                      go_meet
                      case rel => exact ⟨rfl, rfl⟩
                    · have g2 : (what == (2 : Int)) = false := by simpa using h2
                      by_cases h3 : what = 3
                      · subst h3
                        go_wp2_with fail
                        go_meet
                        case rel => exact ⟨rfl, rfl⟩
                      · have g3 : (what == (3 : Int)) = false := by simpa using h3
                        by_cases h4 : what = 4
                        · subst h4
                          go_wp2_with fail
                          go_meet
                          case rel => exact ⟨rfl, rfl⟩
                        · have g4 : (what == (4 : Int)) = false := by simpa using h4
                          go_wp2_with fail
                          go_meet
                          case rel => exact ⟨congrArg Value.bool (decide_eq_false (by omega)).symm, rfl⟩
              case rest =>
                obtain ⟨rfl, rfl⟩ := hcut
                obtain ⟨c0, c1, c2', c3', c4, c5, hAz⟩ := HS1.out.kA.c6
                by_cases hA : 0 ≤ what ∧ what ≤ 4
                · rw [decide_eq_true hA]
                  clear c0
                  go_wp2_with fail
                  obtain ⟨⟨S, hP⟩, hok', hN⟩ := HG1.out
                  have HP1 := Lib.hid hP
                  have HO := Lib.hid hok'
                  have HN := Lib.hid hN
                  have HSz := Lib.hid hP.hi
                  have Hlb := Lib.hid (And.intro hP.L.lt hP.R.lt)
                  have HAl := Lib.hid (And.intro HS1.out.kA.lt HS1.out.X.size)
                  clear hP hok' hN
                  refine (ref_Own e HS1.out.q Hint.out.2).mono ?_
                  rintro _ w3 ⟨p3, c3, rfl, ho3, hb3⟩
                  have HP3 := Lib.hid (HP1.out.below hb3)
                  have HS3 := Lib.hid (HS1.out.below hb3)
                  have HB3 := Lib.hid (BSp.own ho3)
                  have HO3 := Lib.hid ho3
                  have Hz3 := Lib.hid hb3.size
                  clear c1 c2' c3' c4 c5 ho3 hb3 HG1 HS1 HP1
                  unfold entVal
                  go_wp2_with fail
                  have hbm := (Below.refl w3.heap.size w3).alloc (Nat.le_refl _) (.cells #[.int .u64 e.t, .int .u32 e.c, .int .u64 e.r, .slice p3 e.cmd.length c3] 33)
                  have kM := Blk.new w3 33 #[.int .u64 e.t, .int .u32 e.c, .int .u64 e.r, .slice p3 e.cmd.length c3]
                  generalize w3.alloc (.cells #[.int .u64 e.t, .int .u32 e.c, .int .u64 e.r, .slice p3 e.cmd.length c3] 33) = W3 at *
                  have HP4 := Lib.hid (HP3.out.below hbm)
                  have HS4 := Lib.hid (HS3.out.below hbm)
                  have HB4 := Lib.hid (HB3.out.ext (Ext.of_below (fun _ => False) hbm) (fun _ _ _ => id) (fun _ h _ => h))
                  have HO4 := Lib.hid (own_below HO3.out hbm)
                  have HM4 := Lib.hid kM
                  have Hz4 := Lib.hid hbm.size
                  clear hbm kM HP3 HS3 HB3 HO3
                  generalize w3.heap.size = mB at *
                  refine (log_App HP4.out.L HO.out HP4.out.hi (Rd.of_own HO4.out) Hint.out.2).mono ?_
                  rintro _ w4 ⟨rfl, hD⟩
                  have HP5 := Lib.hid (HP4.out.log hD)
                  have HS5 := Lib.hid (HS4.out.ext hD.2 (fun j hj => by have := HS4.out.ne; omega))
                  have HB5 := Lib.hid (HB4.out.ext hD.2 (fun j hj _ he => by have := Hlb.out; omega) (fun _ h _ => h))
                  have HM5 := Lib.hid (HM4.out.ext hD.2 (by have := Hlb.out; have := Hz3.out; omega))
                  have Hz5 := Lib.hid hD.2.size
                  obtain ⟨c0, c1, c2', c3', c4, c5, -⟩ := HS5.out.kA.c6
                  clear hD HP4 HS4 HB4 HO4 HM4
                  go_wp2_with fail
                  refine (ref_App HP5.out.R HO.out HP5.out.hi HS5.out.q Hint.out.2).mono ?_
                  rintro _ w5 ⟨rfl, hD⟩
                  have HP6 := Lib.hid (HP5.out.ref hD)
                  have HS6 := Lib.hid (HS5.out.ext hD.2 (fun j hj => by have := HS5.out.ne; omega))
                  have HB6 := Lib.hid (HB5.out.ext hD.2 (fun j hj _ he => by have := Hlb.out; omega) (fun _ h _ => h))
                  have hM := HM5.out.ext hD.2 (by have := Hlb.out; have := Hz3.out; omega)
                  obtain ⟨d0, d1, d2, d3, -⟩ := hM.c4
                  clear hD HP5 HS5 HB5 HM5 hM c0 c1 c2' c3' c4 c5
                  go_wp2_with fail
                  refine (spoil_any (SpE.one HB6.out rfl) rfl (by simp) (fun e' he => by simp at he; subst he; exact Hint.out.2)).mono ?_
                  rintro _ w6 ⟨rfl, hE⟩
                  have hbm := (Below.refl w5.heap.size w5).alloc (Nat.le_refl _) (.cells #[.int .u64 e.t, .int .u32 e.c, .int .u64 e.r, .slice p3 e.cmd.length c3] 33)
                  have HP7 := Lib.hid ((HP6.out.below hbm).spoil hE (fun j hj => by
                    have h1 := Hlb.out
                    have h2 := Hz3.out
                    have h3 := Hz4.out
                    have h4 := Hz5.out
                    refine ⟨?_, by omega, by omega⟩
                    rintro (⟨⟨h, -⟩ | h, -⟩ | h)
                    · have := HSz.out _ h; omega
                    · omega
                    · omega))
                  have HS7 := Lib.hid ((HS6.out.below hbm).ext hE (fun j hj => by have := HAl.out; omega))
                  clear hbm hE HP6 HS6 HB6 d0 d1 d2 d3
                  go_wp2_with fail
                  go_meet
                  case rel => exact ⟨b, m, appL es e, rfl, rfl, Lib.hid ⟨⟨⟨_, HP7.out⟩, appL_ok HO.out Hint.out.2, by have := HN.out; omega⟩, HS7.out⟩⟩
                · rw [decide_eq_false hA]
                  by_cases h5 : what = 5
                  · subst h5
                    obtain ⟨⟨S, hP⟩, hok', hN⟩ := HG1.out
                    have HP1 := Lib.hid hP
                    have HO := Lib.hid hok'
                    have HN := Lib.hid hN
                    have HSz := Lib.hid hP.hi
                    have Hlb := Lib.hid (And.intro hP.L.lt hP.R.lt)
                    have HAl := Lib.hid (And.intro HS1.out.kA.lt HS1.out.X.size)
                    clear hP hok' hN
                    clear c1 c2' c3' c4 c5 HG1
                    go_wp2_with fail
                    refine (log_CutA HP1.out.L HO.out HP1.out.hi).mono ?_
                    rintro _ w3 ⟨rfl, hD⟩
                    have HP3 := Lib.hid (HP1.out.log hD)
                    have HS3 := Lib.hid (HS1.out.ext hD.2 (fun j hj => by have := HS1.out.ne; omega))
                    clear hD HP1 HS1
                    go_wp2_with fail
                    refine (ref_CutA HP3.out.R HO.out HP3.out.hi).mono ?_
                    rintro _ w4 ⟨rfl, hD⟩
                    have HP4 := Lib.hid (HP3.out.ref hD)
                    have HS4 := Lib.hid (HS3.out.ext hD.2 (fun j hj => by have := HS3.out.ne; omega))
                    clear hD HP3 HS3
                    go_wp2_with fail
                    go_meet
                    case rel => exact ⟨b, _, _, rfl, rfl, Lib.hid ⟨⟨⟨_, HP4.out⟩, cutL_ok HO.out _ (by have := HN.out; omega), by refine Int.le_trans (cutM_le _ HO.out.len) ?_; have := HN.out; omega⟩, HS4.out⟩⟩
                  · have g5 : (what == (5 : Int)) = false := by simpa using h5
                    by_cases h6 : what = 6
                    · subst h6
                      obtain ⟨⟨S, hP⟩, hok', hN⟩ := HG1.out
                      have HP1 := Lib.hid hP
                      have HO := Lib.hid hok'
                      have HN := Lib.hid hN
                      have HSz := Lib.hid hP.hi
                      have Hlb := Lib.hid (And.intro hP.L.lt hP.R.lt)
                      have HAl := Lib.hid (And.intro HS1.out.kA.lt HS1.out.X.size)
                      clear hP hok' hN
                      clear c1 c2' c3' c4 c5 HG1
                      go_wp2_with fail
                      refine (log_TrimA HP1.out.L HO.out HP1.out.hi).mono ?_
                      rintro _ w3 ⟨rfl, hD⟩
                      have HP3 := Lib.hid (HP1.out.log hD)
                      have HS3 := Lib.hid (HS1.out.ext hD.2 (fun j hj => by have := HS1.out.ne; omega))
                      clear hD HP1 HS1
                      go_wp2_with fail
                      refine (ref_TrimA HP3.out.R HO.out HP3.out.hi).mono ?_
                      rintro _ w4 ⟨rfl, hD⟩
                      have HP4 := Lib.hid (HP3.out.ref hD)
                      have HS4 := Lib.hid (HS3.out.ext hD.2 (fun j hj => by have := HS3.out.ne; omega))
                      clear hD HP3 HS3
                      go_wp2_with fail
                      go_meet
                      case rel => exact ⟨b, m, _, rfl, rfl, Lib.hid ⟨⟨⟨_, HP4.out⟩, trimL_ok HO.out _, by have := HN.out; omega⟩, HS4.out⟩⟩
                    · have g6 : (what == (6 : Int)) = false := by simpa using h6
                      by_cases h7 : what = 7
                      · subst h7
                        obtain ⟨⟨S, hP⟩, hok', hN⟩ := HG1.out
                        have HP1 := Lib.hid hP
                        have HO := Lib.hid hok'
                        have HN := Lib.hid hN
                        have HSz := Lib.hid hP.hi
                        have Hlb := Lib.hid (And.intro hP.L.lt hP.R.lt)
                        have HAl := Lib.hid (And.intro HS1.out.kA.lt HS1.out.X.size)
                        clear hP hok' hN
                        go_wp2_with fail
                        refine (log_Copy HP1.out.L HO.out).mono ?_
                        rintro _ w3 ⟨b2, rfl, hn⟩
                        have HX3 := Lib.hid (GoodX.old HG1.out hn)
                        have HY3 := Lib.hid (Yl.old HG1.out hn)
                        have HS3 := Lib.hid ((HS1.out.below hn.2.2.2).to (b2 := b2) (by have := HAl.out; have := hn.2.1; omega))
                        have Hy := Lib.hid (show w.heap.size ≤ b ∧ b ≠ A by have := HS1.out.ne; have := HAl.out; have := hn.2.1; omega)
                        clear c0 c1 c2' c3' c4 c5 hn HP1 HS1 HG1
                        obtain ⟨c0, c1, c2', c3', c4, c5, -⟩ := HS3.out.kA.c6
                        go_wp2_with fail
                        refine (Yl.app HY3.out HS3.out.q.1 Hint.out.2).mono ?_
                        rintro _ w4 ⟨⟨a4, r4, rfl⟩, hy, hE⟩
                        have HX4 := Lib.hid (HX3.out.ext hE)
                        have HY4 := Lib.hid hy
                        have HS4 := Lib.hid (HS3.out.ext hE (fun j hj => by have := Hy.out; omega))
                        clear hy hE HX3 HY3 HS3 c0 c1 c2' c3' c4 c5
                        obtain ⟨⟨S4, hP4, -⟩, -⟩ := HX4.out
                        have hR4 := Lib.hid hP4.R
                        clear hP4
                        go_wp2_with fail
                        refine (ref_Op hR4.out HO.out.len).mono ?_
                        rintro _ w5 ⟨rfl, hb⟩
                        have HX5 := Lib.hid (HX4.out.below hb)
                        have HY5 := Lib.hid (HY4.out.below hb)
                        have HS5 := Lib.hid (HS4.out.below hb)
                        clear hb HX4 HY4 HS4 hR4
                        go_wp2_with fail
                        refine (Yl.cut HY5.out (by have := HN.out; omega)).mono ?_
                        rintro _ w6 ⟨⟨r6, rfl⟩, ⟨m6, es6, hy⟩, hE⟩
                        have HX6 := Lib.hid (HX5.out.ext hE)
                        have HY6 := Lib.hid hy
                        have HS6 := Lib.hid (HS5.out.ext hE (fun j hj => by have := Hy.out; omega))
                        obtain ⟨⟨S6, hP6, -⟩, -⟩ := HX6.out
                        obtain ⟨rp6, rc6, kR6, -⟩ := hP6.R
                        obtain ⟨r0, r1, -, -, hr6⟩ := kR6.c2
                        clear hy hE HX5 HY5 HS5 hP6 kR6
                        go_wp2_with fail
                        refine (Yl.trim HY6.out).mono ?_
                        rintro _ w7 ⟨⟨r7, rfl⟩, hE⟩
                        have HX7 := Lib.hid (HX6.out.ext hE)
                        have HS7 := Lib.hid (HS6.out.ext hE (fun j hj => by have := Hy.out; omega))
                        clear hE HX6 HY6 HS6 r0 r1
                        go_wp2_with fail
                        go_meet
                        case rel => exact ⟨b2, m, es, rfl, rfl, Lib.hid ⟨HX7.out.good.mono (by omega), HS7.out⟩⟩
                      · have g7 : (what == (7 : Int)) = false := by simpa using h7
                        by_cases h8 : what = 8
                        · subst h8
                          obtain ⟨⟨S, hP⟩, hok', hN⟩ := HG1.out
                          have HP1 := Lib.hid hP
                          have HO := Lib.hid hok'
                          have HN := Lib.hid hN
                          have HSz := Lib.hid hP.hi
                          have Hlb := Lib.hid (And.intro hP.L.lt hP.R.lt)
                          have HAl := Lib.hid (And.intro HS1.out.kA.lt HS1.out.X.size)
                          clear hP hok' hN
                          go_wp2_with fail
                          refine (log_Copy HP1.out.L HO.out).mono ?_
                          rintro _ w3 ⟨b2, rfl, hn⟩
                          have HX3 := Lib.hid (GoodX.new_ HG1.out hn)
                          have HY3 := Lib.hid (Yl.new_ HO.out hn)
                          have HS3 := Lib.hid ((HS1.out.below hn.2.2.2))
                          have Hy := Lib.hid (show w.heap.size ≤ b2 ∧ b2 ≠ A by have := HS1.out.ne; have := HAl.out; have := hn.2.1; omega)
                          clear c0 c1 c2' c3' c4 c5 hn HP1 HS1 HG1
                          obtain ⟨c0, c1, c2', c3', c4, c5, -⟩ := HS3.out.kA.c6
                          go_wp2_with fail
                          refine (Yl.app HY3.out HS3.out.q.1 Hint.out.2).mono ?_
                          rintro _ w4 ⟨⟨a4, r4, rfl⟩, hy, hE⟩
                          have HX4 := Lib.hid (HX3.out.ext hE)
                          have HY4 := Lib.hid hy
                          have HS4 := Lib.hid (HS3.out.ext hE (fun j hj => by have := Hy.out; omega))
                          clear hy hE HX3 HY3 HS3 c0 c1 c2' c3' c4 c5
                          obtain ⟨⟨S4, hP4, -⟩, -⟩ := HX4.out
                          have hR4 := Lib.hid hP4.R
                          clear hP4
                          go_wp2_with fail
                          refine (ref_Op hR4.out HO.out.len).mono ?_
                          rintro _ w5 ⟨rfl, hb⟩
                          have HX5 := Lib.hid (HX4.out.below hb)
                          have HY5 := Lib.hid (HY4.out.below hb)
                          have HS5 := Lib.hid (HS4.out.below hb)
                          clear hb HX4 HY4 HS4 hR4
                          go_wp2_with fail
                          refine (Yl.cut HY5.out (by have := HN.out; omega)).mono ?_
                          rintro _ w6 ⟨⟨r6, rfl⟩, ⟨m6, es6, hy⟩, hE⟩
                          have HX6 := Lib.hid (HX5.out.ext hE)
                          have HY6 := Lib.hid hy
                          have HS6 := Lib.hid (HS5.out.ext hE (fun j hj => by have := Hy.out; omega))
                          obtain ⟨⟨S6, hP6, -⟩, -⟩ := HX6.out
                          obtain ⟨rp6, rc6, kR6, -⟩ := hP6.R
                          obtain ⟨r0, r1, -, -, hr6⟩ := kR6.c2
                          clear hy hE HX5 HY5 HS5 hP6 kR6
                          go_wp2_with fail
                          refine (Yl.trim HY6.out).mono ?_
                          rintro _ w7 ⟨⟨r7, rfl⟩, hE⟩
                          have HX7 := Lib.hid (HX6.out.ext hE)
                          have HS7 := Lib.hid (HS6.out.ext hE (fun j hj => by have := Hy.out; omega))
                          clear hE HX6 HY6 HS6 r0 r1
                          go_wp2_with fail
                          go_meet
                          case rel => exact ⟨b, m, es, rfl, rfl, Lib.hid ⟨HX7.out.good.mono (by omega), HS7.out⟩⟩
                        · have g8 : (what == (8 : Int)) = false := by simpa using h8
                          clear c0 c1 c2' c3' c4 c5
                          go_wp2_with fail
                          go_meet
                          case rel => exact ⟨b, m, es, rfl, rfl, Lib.hid ⟨HG1.out.mono (by omega), HS1.out⟩⟩
            case rest =>
              obtain ⟨b, m, es, rfl, rfl, hG⟩ := hcut
              obtain ⟨⟨⟨S, hP⟩, hok', hN⟩, hS'⟩ := hG.out
              obtain ⟨rp, rc, kR, -⟩ := hP.R
              have HP := Lib.hid hP
              have HO := Lib.hid hok'
              have HN := Lib.hid hN
              have HS := Lib.hid hS'
              have hS : Holds [(A, 1, .int .u64 e.t), (A, 2, .int .u32 e.c), (A, 3, .int .u64 e.r), (A, 4, .slice qa e.cmd.length da), (rb, 0, .int .u64 m)] wc.drew := ⟨hS'.kA.cell 1, hS'.kA.cell 2, hS'.kA.cell 3, hS'.kA.cell 4, kR.cell 0, trivial⟩
              clear hP hok' hN hS' kR hG HG1 HS1
              go_upto_region 38 with fail
              refine begin_D (T := Hold0) [] (by kernel_rfl) hS (fun _ => trivial) ?_
              refine take_S (v := ?v0r) 0 rfl (by kernel_rfl) (by kernel_rfl) (by kernel_rfl) (by kernel_rfl) (fun _ _ _ h => h) hS (fun _ => trivial) rfl (fun w' hq => ?h0r) ?_
              case h0r => obtain ⟨hq0, hq1, hq2, hq3, hq4, -⟩ := hq; change _ = some _ at hq0; change _ = some _ at hq1; change _ = some _ at hq2; change _ = some _ at hq3; change _ = some _ at hq4; go_simp; try with_reducible rfl
              try simp only [Act.put, List.setIfInBounds_toArray, List.set_cons_zero, List.set_cons_succ, List.getElem_toArray, List.getElem_cons_succ, List.getElem_cons_zero]
              refine take_S (v := ?v1r) 1 rfl (by kernel_rfl) (by kernel_rfl) (by kernel_rfl) (by kernel_rfl) (fun _ _ _ h => h) hS (fun _ => trivial) rfl (fun w' hq => ?h1r) ?_
              case h1r => obtain ⟨hq0, hq1, hq2, hq3, hq4, -⟩ := hq; change _ = some _ at hq0; change _ = some _ at hq1; change _ = some _ at hq2; change _ = some _ at hq3; change _ = some _ at hq4; go_simp; try with_reducible rfl
              try simp only [Act.put, List.setIfInBounds_toArray, List.set_cons_zero, List.set_cons_succ, List.getElem_toArray, List.getElem_cons_succ, List.getElem_cons_zero]
              refine take_S (v := ?v2r) 2 rfl (by kernel_rfl) (by kernel_rfl) (by kernel_rfl) (by kernel_rfl) (fun _ _ _ h => h) hS (fun _ => trivial) rfl (fun w' hq => ?h2r) ?_
              case h2r => obtain ⟨hq0, hq1, hq2, hq3, hq4, -⟩ := hq; change _ = some _ at hq0; change _ = some _ at hq1; change _ = some _ at hq2; change _ = some _ at hq3; change _ = some _ at hq4; go_simp; try with_reducible rfl
              try simp only [Act.put, List.setIfInBounds_toArray, List.set_cons_zero, List.set_cons_succ, List.getElem_toArray, List.getElem_cons_succ, List.getElem_cons_zero]
              refine take_S (v := ?v3r) 3 rfl (by kernel_rfl) (by kernel_rfl) (by kernel_rfl) (by kernel_rfl) (fun _ _ _ h => h) hS (fun _ => trivial) rfl (fun w' hq => ?h3r) ?_
              case h3r => obtain ⟨hq0, hq1, hq2, hq3, hq4, -⟩ := hq; change _ = some _ at hq0; change _ = some _ at hq1; change _ = some _ at hq2; change _ = some _ at hq3; change _ = some _ at hq4; go_simp; try with_reducible rfl
              try simp only [Act.put, List.setIfInBounds_toArray, List.set_cons_zero, List.set_cons_succ, List.getElem_toArray, List.getElem_cons_succ, List.getElem_cons_zero]
              refine take_S (v := ?v4r) 4 rfl (by kernel_rfl) (by kernel_rfl) (by kernel_rfl) (by kernel_rfl) (fun _ _ _ h => h) hS (fun _ => trivial) rfl (fun w' hq => ?h4r) ?_
              case h4r => obtain ⟨hq0, hq1, hq2, hq3, hq4, -⟩ := hq; change _ = some _ at hq0; change _ = some _ at hq1; change _ = some _ at hq2; change _ = some _ at hq3; change _ = some _ at hq4; go_simp; try with_reducible rfl
              try simp only [Act.put, List.setIfInBounds_toArray, List.set_cons_zero, List.set_cons_succ, List.getElem_toArray, List.getElem_cons_succ, List.getElem_cons_zero]
              refine take_S (v := ?v5r) 5 rfl (by kernel_rfl) (by kernel_rfl) (by kernel_rfl) (by kernel_rfl) (fun _ _ _ h => h) hS (fun _ => trivial) rfl (fun w' hq => ?h5r) ?_
              case h5r => obtain ⟨hq0, hq1, hq2, hq3, hq4, -⟩ := hq; change _ = some _ at hq0; change _ = some _ at hq1; change _ = some _ at hq2; change _ = some _ at hq3; change _ = some _ at hq4; go_simp; try with_reducible rfl
              try simp only [Act.put, List.setIfInBounds_toArray, List.set_cons_zero, List.set_cons_succ, List.getElem_toArray, List.getElem_cons_succ, List.getElem_cons_zero]
              refine take_S (v := ?v6r) 6 rfl (by kernel_rfl) (by kernel_rfl) (by kernel_rfl) (by kernel_rfl) (fun _ _ _ h => h) hS (fun _ => trivial) rfl (fun w' hq => ?h6r) ?_
              case h6r => obtain ⟨hq0, hq1, hq2, hq3, hq4, -⟩ := hq; change _ = some _ at hq0; change _ = some _ at hq1; change _ = some _ at hq2; change _ = some _ at hq3; change _ = some _ at hq4; go_simp; try with_reducible rfl
              try simp only [Act.put, List.setIfInBounds_toArray, List.set_cons_zero, List.set_cons_succ, List.getElem_toArray, List.getElem_cons_succ, List.getElem_cons_zero]
              refine take_S (v := ?v7r) 7 rfl (by kernel_rfl) (by kernel_rfl) (by kernel_rfl) (by kernel_rfl) (fun _ _ _ h => h) hS (fun _ => trivial) rfl (fun w' hq => ?h7r) ?_
              case h7r => obtain ⟨hq0, hq1, hq2, hq3, hq4, -⟩ := hq; change _ = some _ at hq0; change _ = some _ at hq1; change _ = some _ at hq2; change _ = some _ at hq3; change _ = some _ at hq4; go_simp; try with_reducible rfl
              try simp only [Act.put, List.setIfInBounds_toArray, List.set_cons_zero, List.set_cons_succ, List.getElem_toArray, List.getElem_cons_succ, List.getElem_cons_zero]
              refine take_S (v := ?v8r) 8 rfl (by kernel_rfl) (by kernel_rfl) (by kernel_rfl) (by kernel_rfl) (fun _ _ _ h => h) hS (fun _ => trivial) rfl (fun w' hq => ?h8r) ?_
              case h8r => obtain ⟨hq0, hq1, hq2, hq3, hq4, -⟩ := hq; change _ = some _ at hq0; change _ = some _ at hq1; change _ = some _ at hq2; change _ = some _ at hq3; change _ = some _ at hq4; go_simp; try with_reducible rfl
              try simp only [Act.put, List.setIfInBounds_toArray, List.set_cons_zero, List.set_cons_succ, List.getElem_toArray, List.getElem_cons_succ, List.getElem_cons_zero]
              refine take_S (v := ?v9r) 9 rfl (by kernel_rfl) (by kernel_rfl) (by kernel_rfl) (by kernel_rfl) (fun _ _ _ h => h) hS (fun _ => trivial) rfl (fun w' hq => ?h9r) ?_
              case h9r => obtain ⟨hq0, hq1, hq2, hq3, hq4, -⟩ := hq; change _ = some _ at hq0; change _ = some _ at hq1; change _ = some _ at hq2; change _ = some _ at hq3; change _ = some _ at hq4; go_simp; try with_reducible rfl
              try simp only [Act.put, List.setIfInBounds_toArray, List.set_cons_zero, List.set_cons_succ, List.getElem_toArray, List.getElem_cons_succ, List.getElem_cons_zero]
              refine take_S (v := ?v10r) 10 rfl (by kernel_rfl) (by kernel_rfl) (by kernel_rfl) (by kernel_rfl) (fun _ _ _ h => h) hS (fun _ => trivial) rfl (fun w' hq => ?h10r) ?_
              case h10r => obtain ⟨hq0, hq1, hq2, hq3, hq4, -⟩ := hq; change _ = some _ at hq0; change _ = some _ at hq1; change _ = some _ at hq2; change _ = some _ at hq3; change _ = some _ at hq4; go_simp; try with_reducible rfl
              try simp only [Act.put, List.setIfInBounds_toArray, List.set_cons_zero, List.set_cons_succ, List.getElem_toArray, List.getElem_cons_succ, List.getElem_cons_zero]
              refine take_S (v := ?v11r) 11 rfl (by kernel_rfl) (by kernel_rfl) (by kernel_rfl) (by kernel_rfl) (fun _ _ _ h => h) hS (fun _ => trivial) rfl (fun w' hq => ?h11r) ?_
              case h11r => obtain ⟨hq0, hq1, hq2, hq3, hq4, -⟩ := hq; change _ = some _ at hq0; change _ = some _ at hq1; change _ = some _ at hq2; change _ = some _ at hq3; change _ = some _ at hq4; go_simp; try with_reducible rfl
              try simp only [Act.put, List.setIfInBounds_toArray, List.set_cons_zero, List.set_cons_succ, List.getElem_toArray, List.getElem_cons_succ, List.getElem_cons_zero]
              refine take_S (v := ?v12r) 12 rfl (by kernel_rfl) (by kernel_rfl) (by kernel_rfl) (by kernel_rfl) (fun _ _ _ h => h) hS (fun _ => trivial) rfl (fun w' hq => ?h12r) ?_
              case h12r => obtain ⟨hq0, hq1, hq2, hq3, hq4, -⟩ := hq; change _ = some _ at hq0; change _ = some _ at hq1; change _ = some _ at hq2; change _ = some _ at hq3; change _ = some _ at hq4; go_simp; try with_reducible rfl
              try simp only [Act.put, List.setIfInBounds_toArray, List.set_cons_zero, List.set_cons_succ, List.getElem_toArray, List.getElem_cons_succ, List.getElem_cons_zero]
              refine take_S (v := ?v13r) 13 rfl (by kernel_rfl) (by kernel_rfl) (by kernel_rfl) (by kernel_rfl) (fun _ _ _ h => h) hS (fun _ => trivial) rfl (fun w' hq => ?h13r) ?_
              case h13r => obtain ⟨hq0, hq1, hq2, hq3, hq4, -⟩ := hq; change _ = some _ at hq0; change _ = some _ at hq1; change _ = some _ at hq2; change _ = some _ at hq3; change _ = some _ at hq4; go_simp; try with_reducible rfl
              try simp only [Act.put, List.setIfInBounds_toArray, List.set_cons_zero, List.set_cons_succ, List.getElem_toArray, List.getElem_cons_succ, List.getElem_cons_zero]
              refine take_S (v := ?v14r) 14 rfl (by kernel_rfl) (by kernel_rfl) (by kernel_rfl) (by kernel_rfl) (fun _ _ _ h => h) hS (fun _ => trivial) rfl (fun w' hq => ?h14r) ?_
              case h14r => obtain ⟨hq0, hq1, hq2, hq3, hq4, -⟩ := hq; change _ = some _ at hq0; change _ = some _ at hq1; change _ = some _ at hq2; change _ = some _ at hq3; change _ = some _ at hq4; go_simp; try with_reducible rfl
              try simp only [Act.put, List.setIfInBounds_toArray, List.set_cons_zero, List.set_cons_succ, List.getElem_toArray, List.getElem_cons_succ, List.getElem_cons_zero]
              refine one_D 15 rfl (by kernel_rfl) (fun KQ hK => ?_)
              go_simp
              refine (tells_true (eo := e) (HP.out.below (Below.refl _ wc).drew).L (HP.out.below (Below.refl _ wc).drew).R HO.out (HS.out.below (Below.refl _ wc).drew).q.1).mono ?_
              rintro _ w5 ⟨rfl, hb⟩
              have hb' := (Below.refl _ wc).drew.trans hb
              have hS5 := Holds.below hS hb
              have HP5 := Lib.hid (HP.out.below hb')
              have HS5 := Lib.hid (HS.out.below hb')
              refine hK.out _ _ hS5 (fun _ => trivial) ?_
              clear hK hS hb hb' HP HS
              refine take_S (v := ?v16r) 16 rfl (by kernel_rfl) (by kernel_rfl) (by kernel_rfl) (by kernel_rfl) (fun _ _ _ h => h) hS5 (fun _ => trivial) rfl (fun w' hq => ?h16r) ?_
              case h16r => obtain ⟨hq0, hq1, hq2, hq3, hq4, -⟩ := hq; change _ = some _ at hq0; change _ = some _ at hq1; change _ = some _ at hq2; change _ = some _ at hq3; change _ = some _ at hq4; go_simp; try with_reducible rfl
              try simp only [Act.put, List.setIfInBounds_toArray, List.set_cons_zero, List.set_cons_succ, List.getElem_toArray, List.getElem_cons_succ, List.getElem_cons_zero]
              refine take_S (v := ?v17r) 17 rfl (by kernel_rfl) (by kernel_rfl) (by kernel_rfl) (by kernel_rfl) (fun _ _ _ h => h) hS5 (fun _ => trivial) rfl (fun w' hq => ?h17r) ?_
              case h17r => obtain ⟨hq0, hq1, hq2, hq3, hq4, -⟩ := hq; change _ = some _ at hq0; change _ = some _ at hq1; change _ = some _ at hq2; change _ = some _ at hq3; change _ = some _ at hq4; go_simp; try with_reducible rfl
              try simp only [Act.put, List.setIfInBounds_toArray, List.set_cons_zero, List.set_cons_succ, List.getElem_toArray, List.getElem_cons_succ, List.getElem_cons_zero]
              refine take_S (v := ?v18r) 18 rfl (by kernel_rfl) (by kernel_rfl) (by kernel_rfl) (by kernel_rfl) (fun _ _ _ h => h) hS5 (fun _ => trivial) rfl (fun w' hq => ?h18r) ?_
              case h18r => obtain ⟨hq0, hq1, hq2, hq3, hq4, -⟩ := hq; change _ = some _ at hq0; change _ = some _ at hq1; change _ = some _ at hq2; change _ = some _ at hq3; change _ = some _ at hq4; go_simp; try with_reducible rfl
              try simp only [Act.put, List.setIfInBounds_toArray, List.set_cons_zero, List.set_cons_succ, List.getElem_toArray, List.getElem_cons_succ, List.getElem_cons_zero]
              refine take_S (v := ?v19r) 19 rfl (by kernel_rfl) (by kernel_rfl) (by kernel_rfl) (by kernel_rfl) (fun _ _ _ h => h) hS5 (fun _ => trivial) rfl (fun w' hq => ?h19r) ?_
              case h19r => obtain ⟨hq0, hq1, hq2, hq3, hq4, -⟩ := hq; change _ = some _ at hq0; change _ = some _ at hq1; change _ = some _ at hq2; change _ = some _ at hq3; change _ = some _ at hq4; go_simp; try with_reducible rfl
              try simp only [Act.put, List.setIfInBounds_toArray, List.set_cons_zero, List.set_cons_succ, List.getElem_toArray, List.getElem_cons_succ, List.getElem_cons_zero]
              refine take_S (v := ?v20r) 20 rfl (by kernel_rfl) (by kernel_rfl) (by kernel_rfl) (by kernel_rfl) (fun _ _ _ h => h) hS5 (fun _ => trivial) rfl (fun w' hq => ?h20r) ?_
              case h20r => obtain ⟨hq0, hq1, hq2, hq3, hq4, -⟩ := hq; change _ = some _ at hq0; change _ = some _ at hq1; change _ = some _ at hq2; change _ = some _ at hq3; change _ = some _ at hq4; go_simp; try with_reducible rfl
              try simp only [Act.put, List.setIfInBounds_toArray, List.set_cons_zero, List.set_cons_succ, List.getElem_toArray, List.getElem_cons_succ, List.getElem_cons_zero]
              refine take_S (v := ?v21r) 21 rfl (by kernel_rfl) (by kernel_rfl) (by kernel_rfl) (by kernel_rfl) (fun _ _ _ h => h) hS5 (fun _ => trivial) rfl (fun w' hq => ?h21r) ?_
              case h21r => obtain ⟨hq0, hq1, hq2, hq3, hq4, -⟩ := hq; change _ = some _ at hq0; change _ = some _ at hq1; change _ = some _ at hq2; change _ = some _ at hq3; change _ = some _ at hq4; go_simp; try with_reducible rfl
              try simp only [Act.put, List.setIfInBounds_toArray, List.set_cons_zero, List.set_cons_succ, List.getElem_toArray, List.getElem_cons_succ, List.getElem_cons_zero]
              refine take_S (v := ?v23r) 23 rfl (by kernel_rfl) (by kernel_rfl) (by kernel_rfl) (by kernel_rfl) (fun _ _ _ h => h) hS5 (fun _ => trivial) rfl (fun w' hq => ?h23r) ?_
              case h23r => obtain ⟨hq0, hq1, hq2, hq3, hq4, -⟩ := hq; change _ = some _ at hq0; change _ = some _ at hq1; change _ = some _ at hq2; change _ = some _ at hq3; change _ = some _ at hq4; go_simp; try with_reducible rfl
              try simp only [Act.put, List.setIfInBounds_toArray, List.set_cons_zero, List.set_cons_succ, List.getElem_toArray, List.getElem_cons_succ, List.getElem_cons_zero]
              refine take_S (v := ?v24r) 24 rfl (by kernel_rfl) (by kernel_rfl) (by kernel_rfl) (by kernel_rfl) (fun _ _ _ h => h) hS5 (fun _ => trivial) rfl (fun w' hq => ?h24r) ?_
              case h24r => obtain ⟨hq0, hq1, hq2, hq3, hq4, -⟩ := hq; change _ = some _ at hq0; change _ = some _ at hq1; change _ = some _ at hq2; change _ = some _ at hq3; change _ = some _ at hq4; go_simp; try with_reducible rfl
              try simp only [Act.put, List.setIfInBounds_toArray, List.set_cons_zero, List.set_cons_succ, List.getElem_toArray, List.getElem_cons_succ, List.getElem_cons_zero]
              refine one_D 22 rfl (by kernel_rfl) (fun KQ hK => ?_)
              go_simp
              refine (ref_Op HP5.out.R HO.out.len).mono ?_
              rintro _ w6 ⟨rfl, hb⟩
              have hS6 := Holds.below hS5 hb
              have HP6 := Lib.hid (HP5.out.below hb)
              have HS6 := Lib.hid (HS5.out.below hb)
              refine hK.out _ _ hS6 (fun _ => trivial) ?_
              clear hK hS5 hb HP5 HS5
              refine one_D 25 rfl (by kernel_rfl) (fun KQ hK => ?_)
              go_simp
              refine (tells_true (eo := e) HP6.out.L HP6.out.R HO.out HS6.out.q.1).mono ?_
              rintro _ w7 ⟨rfl, hb⟩
              have hS7 := Holds.below hS6 hb
              have HP7 := Lib.hid (HP6.out.below hb)
              have HS7 := Lib.hid (HS6.out.below hb)
              refine hK.out _ _ hS7 (fun _ => trivial) ?_
              clear hK hS6 hb HP6 HS6
              refine take_S (v := ?v26r) 26 rfl (by kernel_rfl) (by kernel_rfl) (by kernel_rfl) (by kernel_rfl) (fun _ _ _ h => h) hS7 (fun _ => trivial) rfl (fun w' hq => ?h26r) ?_
              case h26r => obtain ⟨hq0, hq1, hq2, hq3, hq4, -⟩ := hq; change _ = some _ at hq0; change _ = some _ at hq1; change _ = some _ at hq2; change _ = some _ at hq3; change _ = some _ at hq4; go_simp; try with_reducible rfl
              try simp only [Act.put, List.setIfInBounds_toArray, List.set_cons_zero, List.set_cons_succ, List.getElem_toArray, List.getElem_cons_succ, List.getElem_cons_zero]
              refine take_S (v := ?v27r) 27 rfl (by kernel_rfl) (by kernel_rfl) (by kernel_rfl) (by kernel_rfl) (fun _ _ _ h => h) hS7 (fun _ => trivial) rfl (fun w' hq => ?h27r) ?_
              case h27r => obtain ⟨hq0, hq1, hq2, hq3, hq4, -⟩ := hq; change _ = some _ at hq0; change _ = some _ at hq1; change _ = some _ at hq2; change _ = some _ at hq3; change _ = some _ at hq4; go_simp; try with_reducible rfl
              try simp only [Act.put, List.setIfInBounds_toArray, List.set_cons_zero, List.set_cons_succ, List.getElem_toArray, List.getElem_cons_succ, List.getElem_cons_zero]
              refine done_D (by kernel_rfl) ?_ _
              clear hS7
              go_wp2_with fail
              go_roundw
              case rel => exact ⟨k + 1, b, m, es, by omega, by omega, rfl, by go_num, Lib.hid ⟨⟨⟨_, HP7.out⟩, HO.out, by have := HN.out; omega⟩, HS7.out.X⟩⟩
              case measure => simp [intOf] <;> omega
        · obtain rfl : k = ops.length := by omega
          go_wp2_with fail
          refine wakes_true.mono ?_
          rintro _ w4 ⟨rfl, hX⟩
          have HX4 := Lib.hid (hR.out.2.trans (hX.mono hR.out.2.size))
          clear hX
          go_wp2_with fail
          go_ret
          exact ⟨rfl, HX4.out⟩
    · have hn' : 64 < x.length := by omega
      clear hn H Hf Ha Hok
      go_enter Try.func5, Try.ntmps5
      go_wp2_with fail
      refine (log_New_full hn' hmm).mono ?_
      rintro _ _ ⟨rfl, rfl⟩
      go_wp2_with fail
      refine (ref_New_full hn' hmm).mono ?_
      rintro _ _ ⟨rfl, rfl⟩
      go_wp2_with fail
      refine wakes_true.mono ?_
      rintro _ w4 ⟨rfl, hX⟩
      have HX := Lib.hid hX
      clear hX
      go_wp2_with fail
      go_ret
      exact ⟨rfl, HX.out⟩
  · have hm' : 1099511627776 < m0 := by omega
    clear hmm H Hf Ha Hok
    go_enter Try.func5, Try.ntmps5
    go_wp2_with fail
    refine (log_New_arg hm').mono ?_
    rintro _ _ ⟨rfl, rfl⟩
    go_wp2_with fail
    refine (ref_New_arg hm').mono ?_
    rintro _ _ ⟨rfl, rfl⟩
    go_wp2_with fail
    refine wakes_true.mono ?_
    rintro _ w4 ⟨rfl, hX⟩
    have HX := Lib.hid hX
    clear hX
    go_wp2_with fail
    go_ret
    exact ⟨rfl, HX.out⟩
end Go.Proofs.Ytmoifhoncanjjaa
