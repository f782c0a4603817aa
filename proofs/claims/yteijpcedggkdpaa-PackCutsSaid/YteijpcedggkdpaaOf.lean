/-
  pack.Of: the contract: what a log is as a pack; none where it may not be one. Condition: a log in new memory, in bounds.
-/
import Derived.Test.YteijpcedggkdpaaPack
import Derived.Test.YteijpcedggkdpaaAtP
namespace Go.Proofs.Yteijpcedggkdpaa
open Go.RowKit
set_option linter.unusedSimpArgs false

theorem At_From' {W0 w : World} {b : Nat} {m op : Int} {es : List Ent} (h : At W0 w b m es) (ok : LogOk m es) (hop : op = m) :
    Calls Try.prog 9 #[.pointer (some ⟨b, 0, none⟩), .int .u64 op] w fun x w' => ∃ p c, x = .returned (.tuple #[.slice p es.length c, .int .i64 0]) ∧
      EntsOwn w' w.heap.size (.slice p es.length c) es ∧ Below w.heap.size w w' := by
  subst hop
  have hh := At_From (k := 0) h ok (Nat.zero_le _)
  rw [show op + ((0 : Nat) : Int) = op from by omega, List.drop_zero] at hh
  refine hh.mono ?_
  rintro x w' ⟨p, c, rfl, ho, hX, -⟩
  exact ⟨p, c, rfl, ho, hX⟩
theorem At_Base {W0 w : World} {b : Nat} {m : Int} {es : List Ent} (h : At W0 w b m es) :
    Calls Try.prog 10 #[.pointer (some ⟨b, 0, none⟩)] w fun e w' => e = .returned (.int .u64 m) ∧ w = w' := by
  obtain ⟨p, c, hB⟩ := h.blk
  exact log_Base hB
theorem EntsOwn.base_ {w : World} {base base' : Nat} {v : Value} {es : List Ent} (h : EntsOwn w base v es) (hb : base' ≤ base) : EntsOwn w base' v es := by
  obtain ⟨cs, ho, hE⟩ := h
  exact ⟨cs, own_base ho hb, hE.imp fun c e _ ⟨s, hs, hq⟩ => ⟨s, hs, own_base hq hb⟩⟩
theorem EntsOwn.set4 {w : World} {base g : Nat} {t : TypeId} {v : Value} {es : List Ent} {c : Array Value} (h : EntsOwn w base v es) (hg : Blk w g t c) (h1 : 44 ≠ t) (h2 : 5 ≠ t) (a0 a1 a2 a3 : Value) :
    EntsOwn ((((w.setCell ⟨g, 0, none⟩ a0).setCell ⟨g, 1, none⟩ a1).setCell ⟨g, 2, none⟩ a2).setCell ⟨g, 3, none⟩ a3) base v es :=
  (((h.set_ hg h1 h2 0 a0).set_ (hg.set_ _ _) h1 h2 1 a1).set_ ((hg.set_ _ _).set_ _ _) h1 h2 2 a2).set_ (((hg.set_ _ _).set_ _ _).set_ _ _) h1 h2 3 a3
theorem Below.set4 {w w' : World} {g : Nat} (h : Below w.heap.size w w') (hg : w.heap.size ≤ g) (a0 a1 a2 a3 : Value) :
    Below w.heap.size w ((((w'.setCell ⟨g, 0, none⟩ a0).setCell ⟨g, 1, none⟩ a1).setCell ⟨g, 2, none⟩ a2).setCell ⟨g, 3, none⟩ a3) :=
  (((h.setCell (p := ⟨g, 0, none⟩) hg a0).setCell (p := ⟨g, 1, none⟩) hg a1).setCell (p := ⟨g, 2, none⟩) hg a2).setCell (p := ⟨g, 3, none⟩) hg a3

set_option maxHeartbeats 1600000 in
theorem pack_Of {W0 w : World} {b : Nat} {last m commit : Int} {es : List Ent} (h : At W0 w b m es) (ok : LogOk m es) (hm : mayB last m commit es = true) :
    Calls Try.prog 7 #[.int .u64 last, .int .u64 commit, .pointer (some ⟨b, 0, none⟩)] w fun x w' => ∃ p c, x = .returned (.tuple #[packVal last m commit (.slice p es.length c), .int .i64 0]) ∧
      EntsOwn w' w.heap.size (.slice p es.length c) es ∧ Below w.heap.size w w' := by
  have hlen := ok.len
  have hB1 : Below w.heap.size w (w.alloc (.cells #[.int .u64 0, .int .u64 0, .int .u64 0, .slice none 0 0] 31)) := (Below.refl _ w).alloc (Nat.le_refl _) _
  have H1 := Lib.hid (h.below hB1)
  have K1 := Lib.hid (Blk.new w 31 #[.int .u64 0, .int .u64 0, .int .u64 0, .slice none 0 0])
  have HB1 := Lib.hid hB1
  have Hok := Lib.hid ok
  have Hm := Lib.hid hm
  clear h ok hm hB1
  go_enter Try.func7, Try.ntmps7
  go_wp2_with fail
  generalize w.alloc (.cells #[.int .u64 0, .int .u64 0, .int .u64 0, .slice none 0 0] 31) = W1 at *
  refine (At_Base H1.out).mono ?_
  rintro x w2 ⟨rfl, rfl⟩
  go_wp2_with fail
  refine (At_From' H1.out Hok.out rfl).mono ?_
  rintro x w2 ⟨p, c, rfl, ho, hX⟩
  have H2 := Lib.hid (H1.out.below hX)
  have K2 := Lib.hid (Blk.below K1.out hX)
  have HB2 := Lib.hid (HB1.out.trans (hX.mono HB1.out.size))
  have HO2 := Lib.hid (ho.base_ HB1.out.size)
  clear hX ho H1 K1 HB1
  go_wp2_with fail
  refine (At_Base H2.out).mono ?_
  rintro x w3 ⟨rfl, rfl⟩
  have hB3 := (Below.refl _ w2).alloc (Nat.le_refl _) (.cells #[.int .u64 last, .int .u64 m, .int .u64 commit, .slice p es.length c] 31)
  have HO3 := Lib.hid (HO2.out.below hB3)
  have K3 := Lib.hid (Blk.below K2.out hB3)
  have K4 := Lib.hid (Blk.new w2 31 #[.int .u64 last, .int .u64 m, .int .u64 commit, .slice p es.length c])
  have HB3 := Lib.hid (HB2.out.trans (hB3.mono HB2.out.size))
  clear hB3 H2 K2 HB2 HO2
  go_wp2_with fail
  generalize w2.alloc (.cells #[.int .u64 last, .int .u64 m, .int .u64 commit, .slice p es.length c] 31) = W3 at *
  refine (pack_May (EntsOwn.rd HO3.out) (by omega) Hok.out.low).mono ?_
  rintro x w4 ⟨rfl, hX⟩
  rw [Hm.out]
  have HO4 := Lib.hid (HO3.out.below hX)
  have k5 := Blk.below K3.out hX
  have k6 := Blk.below K4.out hX
  have HB4 := Lib.hid (HB3.out.trans (hX.mono HB3.out.size))
  obtain ⟨a0, a1, a2, a3, f0, f1, f2, f3, hz⟩ := k5.c4
  obtain ⟨b0, b1, b2, b3, -, -, -, -, hz2⟩ := k6.c4
  have K5 := Lib.hid k5
  clear hX HO3 K3 K4 HB3 k5 k6
  go_wp2_with fail
  obtain ⟨y0, y1, y2, y3, -⟩ := (Blk.set4 (a' := .int .u64 last) (b' := .int .u64 m) (c' := .int .u64 commit) (d' := .slice p es.length c) K5.out).c4
  refine bodyPost_ret (v := .tuple #[packVal last m commit (.slice p es.length c), .int .i64 0]) (by simp [results, Try.results7, go_sem, y0, y1, y2, y3, packVal]) rfl ⟨p, c, rfl, ?_, ?_⟩
  · exact HO4.out.set4 K5.out (by decide) (by decide) _ _ _ _
  · exact Below.set4 HB4.out (Nat.le_refl _) _ _ _ _

set_option maxHeartbeats 1600000 in
theorem pack_Of_arg {W0 w : World} {b : Nat} {last m commit : Int} {es : List Ent} (h : At W0 w b m es) (ok : LogOk m es) (hm : mayB last m commit es = false) :
    Calls Try.prog 7 #[.int .u64 last, .int .u64 commit, .pointer (some ⟨b, 0, none⟩)] w fun x w' => x = .returned (.tuple #[packVal 0 0 0 (.slice none 0 0), .int .i64 1]) ∧ Below w.heap.size w w' := by
  have hlen := ok.len
  have hB1 : Below w.heap.size w (w.alloc (.cells #[.int .u64 0, .int .u64 0, .int .u64 0, .slice none 0 0] 31)) := (Below.refl _ w).alloc (Nat.le_refl _) _
  have H1 := Lib.hid (h.below hB1)
  have K1 := Lib.hid (Blk.new w 31 #[.int .u64 0, .int .u64 0, .int .u64 0, .slice none 0 0])
  have HB1 := Lib.hid hB1
  have Hok := Lib.hid ok
  have Hm := Lib.hid hm
  clear h ok hm hB1
  go_enter Try.func7, Try.ntmps7
  go_wp2_with fail
  generalize w.alloc (.cells #[.int .u64 0, .int .u64 0, .int .u64 0, .slice none 0 0] 31) = W1 at *
  refine (At_Base H1.out).mono ?_
  rintro x w2 ⟨rfl, rfl⟩
  go_wp2_with fail
  refine (At_From' H1.out Hok.out rfl).mono ?_
  rintro x w2 ⟨p, c, rfl, ho, hX⟩
  have H2 := Lib.hid (H1.out.below hX)
  have K2 := Lib.hid (Blk.below K1.out hX)
  have HB2 := Lib.hid (HB1.out.trans (hX.mono HB1.out.size))
  have HO2 := Lib.hid (ho.base_ HB1.out.size)
  clear hX ho H1 K1 HB1
  go_wp2_with fail
  refine (At_Base H2.out).mono ?_
  rintro x w3 ⟨rfl, rfl⟩
  have hB3 := (Below.refl _ w2).alloc (Nat.le_refl _) (.cells #[.int .u64 last, .int .u64 m, .int .u64 commit, .slice p es.length c] 31)
  have HO3 := Lib.hid (HO2.out.below hB3)
  have K3 := Lib.hid (Blk.below K2.out hB3)
  have HB3 := Lib.hid (HB2.out.trans (hB3.mono HB2.out.size))
  clear hB3 H2 K2 HB2 HO2
  go_wp2_with fail
  generalize w2.alloc (.cells #[.int .u64 last, .int .u64 m, .int .u64 commit, .slice p es.length c] 31) = W3 at *
  refine (pack_May (EntsOwn.rd HO3.out) (by omega) Hok.out.low).mono ?_
  rintro x w4 ⟨rfl, hX⟩
  rw [Hm.out]
  have k5 := Blk.below K3.out hX
  have HB4 := Lib.hid (HB3.out.trans (hX.mono HB3.out.size))
  obtain ⟨a0, a1, a2, a3, f0, f1, f2, f3, hz⟩ := k5.c4
  have K5 := Lib.hid k5
  clear hX HO3 K3 HB3 k5
  go_wp2_with fail
  obtain ⟨y0, y1, y2, y3, -⟩ := (Blk.set4 (a' := .int .u64 0) (b' := .int .u64 0) (c' := .int .u64 0) (d' := .slice none 0 0) K5.out).c4
  refine bodyPost_ret (v := .tuple #[packVal 0 0 0 (.slice none 0 0), .int .i64 1]) (by simp [results, Try.results7, go_sem, y0, y1, y2, y3, packVal]) rfl ⟨rfl, ?_⟩
  exact Below.set4 HB4.out (Nat.le_refl _) _ _ _ _

end Go.Proofs.Yteijpcedggkdpaa
