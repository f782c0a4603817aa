/-
  Get and From: the contracts.
-/
import Derived.Test.YteijpcedggkdpaaLogAt
namespace Go.Proofs.Yteijpcedggkdpaa
open Go.RowKit

theorem Ext.set4 {M : Nat → Prop} {w w' : World} {g : Nat} {a b c d : Value} (h : Ext M w w') (hg : M g) : Ext M w ((((w'.setCell ⟨g, 0, none⟩ a).setCell ⟨g, 1, none⟩ b).setCell ⟨g, 2, none⟩ c).setCell ⟨g, 3, none⟩ d) :=
  (((h.setCell (p := ⟨g, 0, none⟩) (.inl hg) a).setCell (p := ⟨g, 1, none⟩) (.inl hg) b).setCell (p := ⟨g, 2, none⟩) (.inl hg) c).setCell (p := ⟨g, 3, none⟩) (.inl hg) d

/-- What the closure of Get leaves. -/
def Got (w : World) (g : Nat) (e : Ent) (w' : World) : Prop :=
  ∃ p c, Blk w' g 44 #[.int .u64 e.t, .int .u32 e.c, .int .u64 e.r, .slice p e.cmd.length c] ∧ w'.ownsRow w.heap.size 5 1 (.slice p e.cmd.length c) e.cmd.length (bcells e.cmd) ∧ Ext (fun x => x = g) w w'

set_option maxHeartbeats 800000 in
theorem get_1 {w : World} {S : Nat → Prop} {b g1 g2 k : Nat} {m : Int} {es : List Ent} {z0 z1 z2 z3 : Value} (hL : LogAt w S b m es) (ok : LogOk m es) (k1 : Blk w g1 26 #[.pointer (some ⟨b, 0, none⟩)])
    (k2 : Blk w g2 44 #[z0, z1, z2, z3]) (hk : k < es.length) :
    Calls Try.prog 29 #[.int .i64 ((k : Int) + 1), .pointer (some ⟨g1, 0, none⟩), .pointer (some ⟨g2, 0, none⟩)] w fun x w' => x = .returned (.tuple #[]) ∧ Got w g2 es[k] w' := by
  obtain ⟨p, c, hB, ⟨cs, hr, hE⟩, -⟩ := hL
  obtain ⟨bb, off, c', he, hb1, hb2, hb3, hcell⟩ := Rd.form hr (by omega)
  injection he with he1 _ he2
  subst he1; subst he2
  obtain ⟨s, hs, hq⟩ := hE.2 k es[k] (List.getElem?_eq_getElem hk)
  obtain ⟨e0, e1, e2, e3⟩ := cells4 hcell hs
  obtain ⟨sp, sc, rfl⟩ := Rd.slice hq
  obtain ⟨a0, a1, a2, f0, f1, f2, hz⟩ := hB.c3
  obtain ⟨b0, g0, hz1⟩ := k1.c1
  obtain ⟨m0, m1, m2, m3, n0, n1, n2, n3, hz2⟩ := k2.c4
  have hlen := ok.len
  have Hq := Lib.hid hq
  have K2 := Lib.hid k2
  have Hf := Lib.hid (ok.fits _ (List.getElem_mem hk))
  clear hq hs hcell hr hE hB k1 k2 ok hb3
  go_enter Try.func29, Try.ntmps29
  go_wp2_with fail
  refine (own_any (S := S) es[k] Hq.out Hf.out).mono ?_
  rintro x w1 ⟨p1, c1, rfl, hown, hbl⟩
  have kk := Blk.below K2.out hbl
  obtain ⟨m0, m1, m2, m3, n0, n1, n2, n3, hz2⟩ := kk.c4
  have hm0 := hbl.cell (p := ⟨g1, 0, none⟩) hz1
  rw [b0] at hm0
  have Ho := Lib.hid hown
  have Hb := Lib.hid hbl
  have Kk := Lib.hid kk
  clear hown hbl kk
  unfold entVal
  go_wp2_with fail
  refine bodyPost_end (results_none rfl _ _ _) rfl ⟨rfl, p1, c1, Blk.set4 Kk.out, ?_, ?_⟩
  · exact own_set (own_set (own_set (own_set Ho.out Kk.out (by decide) _ _) (Kk.out.set_ _ _) (by decide) _ _) ((Kk.out.set_ _ _).set_ _ _) (by decide) _ _) (((Kk.out.set_ _ _).set_ _ _).set_ _ _) (by decide) _ _
  · exact Ext.set4 (Ext.of_below (fun x => x = g2) Hb.out) rfl

set_option maxHeartbeats 800000 in
theorem log_Get {w : World} {S : Nat → Prop} {b k : Nat} {m : Int} {es : List Ent} (hL : LogAt w S b m es) (ok : LogOk m es) (hk : k < es.length) :
    Calls Try.prog 15 #[.pointer (some ⟨b, 0, none⟩), .int .u64 (m + k + 1)] w fun x w' => ∃ p c, x = .returned (.tuple #[entVal es[k] (.slice p es[k].cmd.length c), .int .i64 0]) ∧
      w'.ownsRow w.heap.size 5 1 (.slice p es[k].cmd.length c) es[k].cmd.length (bcells es[k].cmd) ∧ Below w.heap.size w w' := by
  have hL1 : LogAt ((w.alloc (.cells #[.pointer (some ⟨b, 0, none⟩)] 26)).alloc (.cells #[.int .u64 0, .int .u32 0, .int .u64 0, .slice none 0 0] 44)) S b m es := by
    obtain ⟨p, c, hB, hE, hS⟩ := hL
    exact ⟨p, c, (hB.alloc _).alloc _, hE.keep (fun k hk _ => (Below.heap_alloc _ _ _ (by simp; omega)).trans (Below.heap_alloc _ _ _ hk)) (fun _ h _ => h), hS⟩
  have k1 := Blk.alloc (Blk.new w 26 #[.pointer (some ⟨b, 0, none⟩)]) (.cells #[.int .u64 0, .int .u32 0, .int .u64 0, .slice none 0 0] 44)
  have k2 := Blk.new (w.alloc (.cells #[.pointer (some ⟨b, 0, none⟩)] 26)) 44 #[.int .u64 0, .int .u32 0, .int .u64 0, .slice none 0 0]
  rw [World.size_alloc] at k2
  have hB := hL1
  obtain ⟨p, c, hB, -⟩ := hB
  have h1 := get_1 hL1 ok k1 k2 hk
  have HL := Lib.hid hL1
  have Ok := Lib.hid ok
  have HB := Lib.hid hB
  have K2 := Lib.hid k2
  have H1 := Lib.hid h1
  clear hL1 hL ok k1 k2 hB h1
  go_enter Try.func15, Try.ntmps15
  go_wp2_with fail
  refine (log_at_ok (R := fun w0 w' => Got w0 (w.heap.size + 1) es[k] w') HB.out Ok.out.low Ok.out.high Ok.out.len (by omega) (by omega) (by omega) (enter_f 29 (by kernel_rfl)) ?_).mono ?_
  · have e : m + (k : Int) + 1 - m = k + 1 := by omega
    rw [e]
    exact H1.out
  rintro x w1 ⟨rfl, p1, c1, kk, ho, hx⟩
  obtain ⟨m0, m1, m2, m3, n0, n1, n2, n3, hz2⟩ := kk.c4
  have Kk := Lib.hid kk
  have Ho := Lib.hid ho
  have Hx := Lib.hid hx
  clear kk ho hx
  go_wp2_with fail
  refine bodyPost_ret (v := .tuple #[entVal es[k] (.slice p1 es[k].cmd.length c1), .int .i64 0]) (by simp [results, Try.results15, go_sem, m0, m1, m2, m3, entVal]) rfl ⟨p1, c1, rfl, ?_, ?_⟩
  · refine own_base (base := w.heap.size + 2) ?_ (by omega)
    have h := Ho.out
    simp only [World.size_alloc] at h
    exact own_set (own_set (own_set (own_set h Kk.out (by decide) _ _) (Kk.out.set_ _ _) (by decide) _ _) ((Kk.out.set_ _ _).set_ _ _) (by decide) _ _) (((Kk.out.set_ _ _).set_ _ _).set_ _ _) (by decide) _ _
  · refine Ext.from (((Below.refl _ w).alloc (Nat.le_refl _) _).alloc (by simp) _) (Ext.set4 Hx.out rfl) ?_
    rintro k rfl
    omega

/-- No op there. -/
theorem log_Get_none {w : World} {S : Nat → Prop} {b : Nat} {m op : Int} {es : List Ent} (hL : LogAt w S b m es) (ok : LogOk m es) (ho : m + es.length < op) :
    Calls Try.prog 15 #[.pointer (some ⟨b, 0, none⟩), .int .u64 op] w fun x w' => x = .returned (.tuple #[entVal ⟨0, 0, 0, []⟩ (.slice none 0 0), .int .i64 6]) ∧ Below w.heap.size w w' := by
  obtain ⟨p, c, hB, -⟩ := hL
  have hB1 := (hB.alloc (.cells #[.pointer (some ⟨b, 0, none⟩)] 26)).alloc (.cells #[.int .u64 0, .int .u32 0, .int .u64 0, .slice none 0 0] 44)
  have Ok := Lib.hid ok
  have HB := Lib.hid hB1
  clear ok hB hB1
  go_enter Try.func15, Try.ntmps15
  go_wp2_with fail
  refine (log_at_none HB.out Ok.out.low Ok.out.high Ok.out.len ho).mono ?_
  rintro x w1 ⟨rfl, rfl⟩
  go_wp2_with fail
  refine bodyPost_ret (v := .tuple #[entVal ⟨0, 0, 0, []⟩ (.slice none 0 0), .int .i64 6]) (by simp [results, Try.results15, go_sem, entVal]) rfl ⟨rfl, ?_⟩
  repeat' (first | (with_reducible exact Below.refl _ _) | (with_reducible refine Below.setCell ?_ (by simp) _) | (with_reducible refine Below.alloc ?_ (by simp) _))

theorem log_Get_gone {w : World} {S : Nat → Prop} {b : Nat} {m op : Int} {es : List Ent} (hL : LogAt w S b m es) (ok : LogOk m es) (ho : op ≤ m) :
    Calls Try.prog 15 #[.pointer (some ⟨b, 0, none⟩), .int .u64 op] w fun x w' => x = .returned (.tuple #[entVal ⟨0, 0, 0, []⟩ (.slice none 0 0), .int .i64 32]) ∧ Below w.heap.size w w' := by
  obtain ⟨p, c, hB, -⟩ := hL
  have hB1 := (hB.alloc (.cells #[.pointer (some ⟨b, 0, none⟩)] 26)).alloc (.cells #[.int .u64 0, .int .u32 0, .int .u64 0, .slice none 0 0] 44)
  have Ok := Lib.hid ok
  have HB := Lib.hid hB1
  clear ok hB hB1
  go_enter Try.func15, Try.ntmps15
  go_wp2_with fail
  refine (log_at_gone HB.out Ok.out.low Ok.out.high Ok.out.len (by omega) (by omega)).mono ?_
  rintro x w1 ⟨rfl, rfl⟩
  go_wp2_with fail
  refine bodyPost_ret (v := .tuple #[entVal ⟨0, 0, 0, []⟩ (.slice none 0 0), .int .i64 32]) (by simp [results, Try.results15, go_sem, entVal]) rfl ⟨rfl, ?_⟩
  repeat' (first | (with_reducible exact Below.refl _ _) | (with_reducible refine Below.setCell ?_ (by simp) _) | (with_reducible refine Below.alloc ?_ (by simp) _))
end Go.Proofs.Yteijpcedggkdpaa
