/-
  From: the contracts.
-/
import Derived.Test.YteijpcedggkdpaaLogAt
namespace Go.Proofs.Yteijpcedggkdpaa
open Go.RowKit

/-- What the closure of From leaves. -/
def GotAll (w : World) (g : Nat) (es : List Ent) (w' : World) : Prop :=
  ∃ p c, Blk w' g 23 #[.slice p es.length c] ∧ EntsOwn w' w.heap.size (.slice p es.length c) es ∧ Ext (fun x => x = g) w w'

set_option maxHeartbeats 800000 in
theorem from_1 {w : World} {S : Nat → Prop} {b g1 g2 k : Nat} {m : Int} {es : List Ent} {z : Value} (hL : LogAt w S b m es) (ok : LogOk m es) (k1 : Blk w g1 26 #[.pointer (some ⟨b, 0, none⟩)])
    (k2 : Blk w g2 23 #[z]) (hk : k ≤ es.length) :
    Calls Try.prog 24 #[.int .i64 (k : Int), .pointer (some ⟨g1, 0, none⟩), .pointer (some ⟨g2, 0, none⟩)] w fun x w' => x = .returned (.tuple #[]) ∧ GotAll w g2 (es.drop k) w' := by
  obtain ⟨p, c, hB, hE, -⟩ := hL
  obtain ⟨a0, a1, a2, f0, f1, f2, hz⟩ := hB.c3
  obtain ⟨b0, g0, hz1⟩ := k1.c1
  obtain ⟨m0, n0, hz2⟩ := k2.c1
  have hlen := ok.len
  have HE := Lib.hid hE
  have K2 := Lib.hid k2
  have Hf := Lib.hid ok.fits
  clear hE hB k1 k2 ok
  have hD : (es.drop k).length = es.length - k := List.length_drop
  have HD := Lib.hid hD
  clear hD
  by_cases hck : c = k
  · subst hck
    have h := owns_any (EntsRd.cut HE.out hk) (Fits.drop Hf.out c) (by rw [HD.out]; omega)
    rw [if_pos rfl, Nat.sub_self] at h
    have H := Lib.hid h
    clear h
    go_enter Try.func24, Try.ntmps24
    go_wp2_with fail
    refine H.out.mono ?_
    rintro x w1 ⟨p1, c1, rfl, ho, hb⟩
    have kk := Blk.below K2.out hb
    obtain ⟨m0, n0, hz2⟩ := kk.c1
    have Ho := Lib.hid ho
    have Hb := Lib.hid hb
    have Kk := Lib.hid kk
    clear ho hb kk
    go_wp2_with fail
    refine bodyPost_end (results_none rfl _ _ _) rfl ⟨rfl, p1, c1, by simpa using Kk.out.set_ 0 (.slice p1 (List.drop c es).length c1), EntsOwn.set_ Ho.out Kk.out (by decide) (by decide) _ _, Ext.set1 (Ext.of_below (fun x => x = g2) Hb.out) rfl⟩
  · have h := owns_any (EntsRd.cut HE.out hk) (Fits.drop Hf.out k) (by rw [HD.out]; omega)
    rw [if_neg hck] at h
    have H := Lib.hid h
    clear h
    go_enter Try.func24, Try.ntmps24
    go_wp2_with fail
    refine H.out.mono ?_
    rintro x w1 ⟨p1, c1, rfl, ho, hb⟩
    have kk := Blk.below K2.out hb
    obtain ⟨m0, n0, hz2⟩ := kk.c1
    have Ho := Lib.hid ho
    have Hb := Lib.hid hb
    have Kk := Lib.hid kk
    clear ho hb kk
    go_wp2_with fail
    refine bodyPost_end (results_none rfl _ _ _) rfl ⟨rfl, p1, c1, by simpa using Kk.out.set_ 0 (.slice p1 (List.drop k es).length c1), EntsOwn.set_ Ho.out Kk.out (by decide) (by decide) _ _, Ext.set1 (Ext.of_below (fun x => x = g2) Hb.out) rfl⟩

set_option maxHeartbeats 800000 in
theorem log_From {w : World} {S : Nat → Prop} {b k : Nat} {m : Int} {es : List Ent} (hL : LogAt w S b m es) (ok : LogOk m es) (hk : k ≤ es.length) :
    Calls Try.prog 9 #[.pointer (some ⟨b, 0, none⟩), .int .u64 (m + k)] w fun x w' => ∃ p c, x = .returned (.tuple #[.slice p (es.drop k).length c, .int .i64 0]) ∧
      EntsOwn w' w.heap.size (.slice p (es.drop k).length c) (es.drop k) ∧ Below w.heap.size w w' := by
  have hL1 : LogAt ((w.alloc (.cells #[.pointer (some ⟨b, 0, none⟩)] 26)).alloc (.cells #[.slice none 0 0] 23)) S b m es := by
    obtain ⟨p, c, hB, hE, hS⟩ := hL
    exact ⟨p, c, (hB.alloc _).alloc _, hE.keep (fun k hk _ => (Below.heap_alloc _ _ _ (by simp; omega)).trans (Below.heap_alloc _ _ _ hk)) (fun _ h _ => h), hS⟩
  have k1 := Blk.alloc (Blk.new w 26 #[.pointer (some ⟨b, 0, none⟩)]) (.cells #[.slice none 0 0] 23)
  have k2 := Blk.new (w.alloc (.cells #[.pointer (some ⟨b, 0, none⟩)] 26)) 23 #[.slice none 0 0]
  rw [World.size_alloc] at k2
  have hB := hL1
  obtain ⟨p, c, hB, -⟩ := hB
  have h1 := from_1 hL1 ok k1 k2 hk
  have Ok := Lib.hid ok
  have HB := Lib.hid hB
  have H1 := Lib.hid h1
  clear hL1 hL ok k1 k2 hB h1
  go_enter Try.func9, Try.ntmps9
  go_wp2_with fail
  refine (log_at_ok (R := fun w0 w' => GotAll w0 (w.heap.size + 1) (es.drop k) w') HB.out Ok.out.low Ok.out.high Ok.out.len (by omega) (by omega) (by omega) (enter_f 24 (by kernel_rfl)) ?_).mono ?_
  · have e : m + (k : Int) - m = k := by omega
    rw [e]
    exact H1.out
  rintro x w1 ⟨rfl, p1, c1, kk, ho, hx⟩
  obtain ⟨m0, n0, hz2⟩ := kk.c1
  have Kk := Lib.hid kk
  have Ho := Lib.hid ho
  have Hx := Lib.hid hx
  clear kk ho hx
  go_wp2_with fail
  refine bodyPost_ret (v := .tuple #[.slice p1 (es.drop k).length c1, .int .i64 0]) (by simp [results, Try.results9, go_sem, m0]) rfl ⟨p1, c1, rfl, ?_, ?_⟩
  · refine EntsOwn.base (base := w.heap.size + 2) ?_ (by omega)
    have h := Ho.out
    simp only [World.size_alloc] at h
    exact EntsOwn.set_ h Kk.out (by decide) (by decide) _ _
  · refine Ext.from (((Below.refl _ w).alloc (Nat.le_refl _) _).alloc (by simp) _) (Ext.set1 Hx.out rfl) ?_
    rintro k rfl
    omega

theorem log_From_none {w : World} {S : Nat → Prop} {b : Nat} {m op : Int} {es : List Ent} (hL : LogAt w S b m es) (ok : LogOk m es) (ho : m + es.length < op) :
    Calls Try.prog 9 #[.pointer (some ⟨b, 0, none⟩), .int .u64 op] w fun x w' => x = .returned (.tuple #[.slice none 0 0, .int .i64 6]) ∧ Below w.heap.size w w' := by
  obtain ⟨p, c, hB, -⟩ := hL
  have hB1 := (hB.alloc (.cells #[.pointer (some ⟨b, 0, none⟩)] 26)).alloc (.cells #[.slice none 0 0] 23)
  have Ok := Lib.hid ok
  have HB := Lib.hid hB1
  clear ok hB hB1
  go_enter Try.func9, Try.ntmps9
  go_wp2_with fail
  refine (log_at_none HB.out Ok.out.low Ok.out.high Ok.out.len ho).mono ?_
  rintro x w1 ⟨rfl, rfl⟩
  go_wp2_with fail
  refine bodyPost_ret (v := .tuple #[.slice none 0 0, .int .i64 6]) (by simp [results, Try.results9, go_sem]) rfl ⟨rfl, ?_⟩
  repeat' (first | (with_reducible exact Below.refl _ _) | (with_reducible refine Below.setCell ?_ (by simp) _) | (with_reducible refine Below.alloc ?_ (by simp) _))

theorem log_From_gone {w : World} {S : Nat → Prop} {b : Nat} {m op : Int} {es : List Ent} (hL : LogAt w S b m es) (ok : LogOk m es) (ho : op < m) :
    Calls Try.prog 9 #[.pointer (some ⟨b, 0, none⟩), .int .u64 op] w fun x w' => x = .returned (.tuple #[.slice none 0 0, .int .i64 32]) ∧ Below w.heap.size w w' := by
  obtain ⟨p, c, hB, -⟩ := hL
  have hB1 := (hB.alloc (.cells #[.pointer (some ⟨b, 0, none⟩)] 26)).alloc (.cells #[.slice none 0 0] 23)
  have Ok := Lib.hid ok
  have HB := Lib.hid hB1
  clear ok hB hB1
  go_enter Try.func9, Try.ntmps9
  go_wp2_with fail
  refine (log_at_gone HB.out Ok.out.low Ok.out.high Ok.out.len (by omega) (by omega)).mono ?_
  rintro x w1 ⟨rfl, rfl⟩
  go_wp2_with fail
  refine bodyPost_ret (v := .tuple #[.slice none 0 0, .int .i64 32]) (by simp [results, Try.results9, go_sem]) rfl ⟨rfl, ?_⟩
  repeat' (first | (with_reducible exact Below.refl _ _) | (with_reducible refine Below.setCell ?_ (by simp) _) | (with_reducible refine Below.alloc ?_ (by simp) _))
end Go.Proofs.Yteijpcedggkdpaa
