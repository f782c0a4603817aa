/-
  The chapter's rows: wakes is true.
-/
import Derived.Test.YtmoifhoncanjjaaLogApp
import Derived.Test.YtmoifhoncanjjaaLogGet
import Derived.Test.YtmoifhoncanjjaaLogFrom
import Derived.Test.YtmoifhoncanjjaaLogCut
import Derived.Test.YtmoifhoncanjjaaLogNew
namespace Go.Proofs.Ytmoifhoncanjjaa
open Go.RowKit

theorem LogAt.ext {w w' : World} {S M : Nat → Prop} {b : Nat} {m : Int} {es : List Ent} (h : LogAt w S b m es) (hX : Ext M w w') (hM : ∀ j, S j → j < w.heap.size → ¬ M j) (hb : ¬ M b) : LogAt w' S b m es := by
  obtain ⟨p, c, hB, hE, hS⟩ := h
  exact ⟨p, c, hB.ext hX hb, hE.keep (fun k hk hS => hX.block k hk (hM k hS hk)) (fun _ h _ => h), hS⟩
theorem LogAt.below {w w' : World} {S : Nat → Prop} {b : Nat} {m : Int} {es : List Ent} (h : LogAt w S b m es) (hX : Below w.heap.size w w') : LogAt w' S b m es :=
  h.ext (Ext.of_below (fun _ => False) hX) (fun _ _ _ => id) id

/-- A log in memory made since W0. -/
def At (W0 w : World) (b : Nat) (m : Int) (es : List Ent) : Prop := (∃ S, LogAt w S b m es ∧ ∀ j, S j → j < w.heap.size) ∧ W0.heap.size ≤ b ∧ Below W0.heap.size W0 w

theorem At.below {W0 w w' : World} {b : Nat} {m : Int} {es : List Ent} (h : At W0 w b m es) (hX : Below w.heap.size w w') : At W0 w' b m es := by
  obtain ⟨⟨S, hL, hS⟩, hb, hw⟩ := h
  exact ⟨⟨S, hL.below hX, fun j hj => Nat.lt_of_lt_of_le (hS j hj) hX.size⟩, hb, hw.trans (hX.mono hw.size)⟩
theorem At.blk {W0 w : World} {b : Nat} {m : Int} {es : List Ent} (h : At W0 w b m es) : ∃ p c, Blk w b 67 #[.int .u64 m, .slice p es.length c, .bool true] := by
  obtain ⟨⟨S, ⟨p, c, hB, -⟩, -⟩, -⟩ := h
  exact ⟨p, c, hB⟩
theorem At.new {W0 w w' : World} {b : Nat} {m : Int} {es : List Ent} (h : NewLog w b m es w') (h0 : Below W0.heap.size W0 w) : At W0 w' b m es := by
  obtain ⟨hL, hb, hb', hX⟩ := h
  exact ⟨⟨_, hL, fun j hj => by omega⟩, by have := h0.size; omega, h0.trans (hX.mono h0.size)⟩

theorem More.lt {S : Nat → Prop} {w w' : World} (hz : w.heap.size ≤ w'.heap.size) : ∀ j, More S w w' j → j < w'.heap.size := by
  rintro j (h | h)
  · exact Nat.lt_of_lt_of_le h.2 hz
  · exact h.2

theorem Below.ext {W0 w w' : World} {b : Nat} (h0 : Below W0.heap.size W0 w) (hX : Ext (fun x => x = b) w w') (hb : W0.heap.size ≤ b) : Below W0.heap.size W0 w' :=
  Ext.from h0 hX (by rintro k rfl; exact hb)

theorem At_Append {W0 w : World} {T : Nat → Prop} {b : Nat} {m : Int} {es : List Ent} {e : Ent} {s : Value} (h : At W0 w b m es) (ok : LogOk m es) (hs : CmdRd w T s e.cmd) (he : e.cmd.length ≤ 140737488355328) (hl : es.length < 64) :
    Calls Try.prog 8 #[.pointer (some ⟨b, 0, none⟩), entVal e s] w fun x w' => x = .returned (.tuple #[.int .u64 (m + es.length + 1), .int .i64 0]) ∧ At W0 w' b m (es ++ [e]) ∧ Ext (fun x => x = b) w w' := by
  obtain ⟨⟨S, hL, hS⟩, hb, hw⟩ := h
  refine (log_Append hL ok hs he hl).mono ?_
  rintro x w' ⟨rfl, hL', hX⟩
  exact ⟨rfl, ⟨⟨_, hL', More.lt hX.size⟩, hb, Below.ext hw hX hb⟩, hX⟩

theorem At_Cut {W0 w : World} {b k : Nat} {m : Int} {es : List Ent} (h : At W0 w b m es) (ok : LogOk m es) (hk : k ≤ es.length) :
    Calls Try.prog 11 #[.pointer (some ⟨b, 0, none⟩), .int .u64 (m + k)] w fun x w' => x = .returned (.int .i64 0) ∧ At W0 w' b (m + k) (es.drop k) ∧ Ext (fun x => x = b) w w' := by
  obtain ⟨⟨S, hL, hS⟩, hb, hw⟩ := h
  refine (log_Cut hL ok hk hS).mono ?_
  rintro x w' ⟨rfl, hL', hX⟩
  exact ⟨rfl, ⟨⟨_, hL', More.lt hX.size⟩, hb, Below.ext hw hX hb⟩, hX⟩

theorem At_Trim {W0 w : World} {b k : Nat} {m : Int} {es : List Ent} (h : At W0 w b m es) (ok : LogOk m es) (hk : k ≤ es.length) :
    Calls Try.prog 12 #[.pointer (some ⟨b, 0, none⟩), .int .u64 (m + k)] w fun x w' => x = .returned (.int .i64 0) ∧ At W0 w' b m (es.take k) ∧ Ext (fun x => x = b) w w' := by
  obtain ⟨⟨S, hL, hS⟩, hb, hw⟩ := h
  refine (log_Trim hL ok hk hS).mono ?_
  rintro x w' ⟨rfl, hL', hX⟩
  exact ⟨rfl, ⟨⟨_, hL', More.lt hX.size⟩, hb, Below.ext hw hX hb⟩, hX⟩

theorem At_Get {W0 w : World} {b k : Nat} {m : Int} {es : List Ent} (h : At W0 w b m es) (ok : LogOk m es) (hk : k < es.length) :
    Calls Try.prog 14 #[.pointer (some ⟨b, 0, none⟩), .int .u64 (m + k + 1)] w fun x w' => ∃ p c, x = .returned (.tuple #[entVal es[k] (.slice p es[k].cmd.length c), .int .i64 0]) ∧
      w'.ownsRow w.heap.size 5 1 (.slice p es[k].cmd.length c) es[k].cmd.length (bcells es[k].cmd) ∧ Below w.heap.size w w' ∧ At W0 w' b m es := by
  have h0 := h
  obtain ⟨⟨S, hL, hS⟩, hb, hw⟩ := h
  refine (log_Get hL ok hk).mono ?_
  rintro x w' ⟨p, c, rfl, ho, hX⟩
  exact ⟨p, c, rfl, ho, hX, h0.below hX⟩

theorem At_Get_none {W0 w : World} {b : Nat} {m op : Int} {es : List Ent} (h : At W0 w b m es) (ok : LogOk m es) (ho : m + es.length < op) :
    Calls Try.prog 14 #[.pointer (some ⟨b, 0, none⟩), .int .u64 op] w fun x w' => x = .returned (.tuple #[entVal ⟨0, 0, 0, []⟩ (.slice none 0 0), .int .i64 6]) ∧ Below w.heap.size w w' ∧ At W0 w' b m es := by
  have h0 := h
  obtain ⟨⟨S, hL, hS⟩, hb, hw⟩ := h
  refine (log_Get_none hL ok ho).mono ?_
  rintro x w' ⟨rfl, hX⟩
  exact ⟨rfl, hX, h0.below hX⟩
theorem At_Get_gone {W0 w : World} {b : Nat} {m op : Int} {es : List Ent} (h : At W0 w b m es) (ok : LogOk m es) (ho : op ≤ m) :
    Calls Try.prog 14 #[.pointer (some ⟨b, 0, none⟩), .int .u64 op] w fun x w' => x = .returned (.tuple #[entVal ⟨0, 0, 0, []⟩ (.slice none 0 0), .int .i64 32]) ∧ Below w.heap.size w w' ∧ At W0 w' b m es := by
  have h0 := h
  obtain ⟨⟨S, hL, hS⟩, hb, hw⟩ := h
  refine (log_Get_gone hL ok ho).mono ?_
  rintro x w' ⟨rfl, hX⟩
  exact ⟨rfl, hX, h0.below hX⟩
theorem At_From {W0 w : World} {b k : Nat} {m : Int} {es : List Ent} (h : At W0 w b m es) (ok : LogOk m es) (hk : k ≤ es.length) :
    Calls Try.prog 16 #[.pointer (some ⟨b, 0, none⟩), .int .u64 (m + k)] w fun x w' => ∃ p c, x = .returned (.tuple #[.slice p (es.drop k).length c, .int .i64 0]) ∧
      EntsOwn w' w.heap.size (.slice p (es.drop k).length c) (es.drop k) ∧ Below w.heap.size w w' ∧ At W0 w' b m es := by
  have h0 := h
  obtain ⟨⟨S, hL, hS⟩, hb, hw⟩ := h
  refine (log_From hL ok hk).mono ?_
  rintro x w' ⟨p, c, rfl, ho, hX⟩
  exact ⟨p, c, rfl, ho, hX, h0.below hX⟩
theorem At_Op {W0 w : World} {b : Nat} {m : Int} {es : List Ent} (h : At W0 w b m es) (ok : LogOk m es) :
    Calls Try.prog 9 #[.pointer (some ⟨b, 0, none⟩)] w fun e w' => e = .returned (.int .u64 (m + es.length)) ∧ w = w' := by
  obtain ⟨p, c, hB⟩ := h.blk
  exact log_Op hB ok.low ok.high ok.len

theorem entry_any {w : World} {c : Int} : Calls Try.prog 40 #[.int .u32 c] w fun x w' => x = .returned (entVal ⟨0, c, 0, []⟩ (.slice none 0 0)) ∧ Below w.heap.size w w' := by
  go_enter Try.func40, Try.ntmps40
  go_wp2_with fail
  go_returns
  exact ⟨rfl, (Below.refl _ _).alloc (Nat.le_refl _) _⟩

def E (c : Int) : Ent := ⟨0, c, 0, []⟩
theorem okE {m : Int} (h0 : 0 ≤ m) (h1 : m ≤ 100) {es : List Ent} (hl : es.length ≤ 3) (he : ∀ e ∈ es, e.cmd = []) : LogOk m es :=
  ⟨fun e h => by rw [he e h]; decide, by omega, h0, by omega⟩
theorem ok1 : LogOk 7 [] := okE (by decide) (by decide) (by decide) (by simp)
theorem ok2 : LogOk 7 [E 1] := okE (by decide) (by decide) (by decide) (by simp [E])
theorem ok3 : LogOk 7 [E 1, E 2] := okE (by decide) (by decide) (by decide) (by simp [E])
theorem ok4 : LogOk 8 [E 2] := okE (by decide) (by decide) (by decide) (by simp [E])
theorem ok5 : LogOk 8 [] := okE (by decide) (by decide) (by decide) (by simp)

set_option maxHeartbeats 3200000 in
set_option maxRecDepth 100000 in
theorem wakes_true {w : World} : Calls Try.prog 19 #[] w fun x w' => x = .returned (.bool true) ∧ Below w.heap.size w w' := by
  go_enter Try.func19, Try.ntmps19
  go_wp2_with fail
  refine (log_New (S := fun _ => False) (m := 7) (es := []) (v := .slice none 0 0) ⟨[], Rd.nil _ _ _, Els.nil _ _⟩ (by intro e h; cases h) (by decide) (by decide)).mono ?_
  rintro x w1 ⟨b, rfl, hN⟩
  have H1 := Lib.hid (At.new hN (Below.refl _ w))
  clear hN
  go_wp2_with fail
  refine (entry_any (c := 1)).mono ?_
  rintro x w2 ⟨rfl, hX⟩
  have H2 := Lib.hid (At.below H1.out hX)
  clear H1 hX
  go_wp2_with fail
  refine (At_Append (T := fun _ => False) (s := .slice none 0 0) (e := E 1) H2.out ok1 (Rd.nil _ _ _) (by decide) (by decide)).mono ?_
  rintro x w3 ⟨rfl, h3, -⟩
  have H3 := Lib.hid h3
  clear h3 H2
  go_wp2_with fail
  refine (entry_any (c := 2)).mono ?_
  rintro x w4 ⟨rfl, hX⟩
  have H4 := Lib.hid (At.below H3.out hX)
  clear H3 hX
  go_wp2_with fail
  refine (At_Append (T := fun _ => False) (s := .slice none 0 0) (e := E 2) H4.out ok2 (Rd.nil _ _ _) (by decide) (by decide)).mono ?_
  rintro x w5 ⟨rfl, h5, -⟩
  have H5 := Lib.hid h5
  clear h5 H4
  go_wp2_with fail
  refine (At_Get_gone (op := 7) H5.out ok3 (by decide)).mono ?_
  rintro x w6 ⟨rfl, -, h6⟩
  have H6 := Lib.hid h6
  clear h6 H5
  unfold entVal
  go_wp2_with fail
  refine (At_Get (m := 7) (es := [E 1, E 2]) (k := 0) (At.below H6.out ((Below.refl _ _).alloc (Nat.le_refl _) _)) ok3 (by decide)).mono ?_
  rintro x w7 ⟨p7, c7, rfl, -, -, h7⟩
  have H7 := Lib.hid h7
  clear h7 H6
  unfold entVal E
  go_wp2_with fail
  have kx := Blk.new w7 33 #[.int .u64 0, .int .u32 1, .int .u64 0, .slice p7 0 c7]
  refine (At_Get_none (op := 10) (At.below H7.out ((Below.refl _ _).alloc (Nat.le_refl _) _)) ok3 (by decide)).mono ?_
  rintro x w8 ⟨rfl, hX, h8⟩
  obtain ⟨a0, a1, a2, a3, f0, f1, f2, f3, hz⟩ := (Blk.below kx hX).c4
  have H8 := Lib.hid h8
  clear h8 H7 hX kx a0 a2 a3 f0 f1 f2 f3
  unfold entVal
  go_wp2_with fail
  refine (At_Op (At.below H8.out ((Below.refl _ _).alloc (Nat.le_refl _) _)) ok3).mono ?_
  rintro x w9 ⟨rfl, rfl⟩
  go_wp2_with fail
  refine (At_Cut (m := 7) (es := [E 1, E 2]) (k := 1) (At.below H8.out ((Below.refl _ _).alloc (Nat.le_refl _) _)) ok3 (by decide)).mono ?_
  rintro x w9 ⟨rfl, h9, -⟩
  have H9 : Hid (At w w9 b 8 [E 2]) := h9
  clear h9 H8
  go_wp2_with fail
  refine (At_From (m := 8) (es := [E 2]) (k := 0) H9.out ok4 (by decide)).mono ?_
  rintro x w10 ⟨p10, c10, rfl, ho, -, h10⟩
  obtain ⟨cs, hr, hE⟩ := EntsOwn.rd ho
  obtain ⟨bb, off, he, _, hb, hcell⟩ := Rd.addr hr (by decide)
  subst he
  obtain ⟨s, hs, -⟩ := hE.2 0 (E 2) rfl
  obtain ⟨-, e1, -, -⟩ := cells4 hcell hs
  have hlt := lt_of_cell e1
  have H10 := Lib.hid h10
  clear h10 H9 ho hr hE hcell hs
  go_wp2_with fail
  refine (At_Get_gone (op := 8) H10.out ok4 (by decide)).mono ?_
  rintro x w11 ⟨rfl, hX, h11⟩
  have e1' : w11.cell? ⟨bb, off + 1, none⟩ = some (.int .u32 2) := by
    rw [hX.cell (p := ⟨bb, off + 1, none⟩) hlt]
    exact e1
  have hlt' : bb < w11.heap.size := lt_of_cell e1'
  have H11 := Lib.hid h11
  clear h11 H10 hX e1
  unfold entVal
  go_wp2_with fail
  refine (At_Trim (m := 8) (es := [E 2]) (k := 0) (At.below H11.out ((Below.refl _ _).alloc (Nat.le_refl _) _)) ok4 (by decide)).mono ?_
  rintro x w12 ⟨rfl, h12, -⟩
  have H12 : Hid (At w w12 b 8 []) := h12
  clear h12 H11
  go_wp2_with fail
  refine (At_Op H12.out ok5).mono ?_
  rintro x w13 ⟨rfl, rfl⟩
  go_wp2_with fail
  go_ret
  exact ⟨rfl, H12.out.2.2⟩
end Go.Proofs.Ytmoifhoncanjjaa
