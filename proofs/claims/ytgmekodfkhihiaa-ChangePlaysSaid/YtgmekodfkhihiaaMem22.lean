/-
  slices.Clone and bytes.Clone hand back a copy in memory of their own.
-/
import Derived.Test.YtgmekodfkhihiaaCore
import Derived.Test.YtgmekodfkhihiaaProg
import Derived.Lib.SliceRun
namespace Go.Proofs.Ytgmekodfkhihiaa
open Go.RowKit

theorem infoB : (Try.prog.info? 5).map (fun i => (i.zero, i.size, i.bytes)) = some (some (.int .u8 0), 1, 1) := by kernel_rfl
theorem infoE : (Try.prog.info? 32).map (fun i => (i.zero, i.size, i.bytes)) = some (some (.agg #[.int .u64 0, .int .u32 0, .int .u64 0, .slice none 0 0]), 4, 48) := by kernel_rfl

set_option maxHeartbeats 400000 in
theorem bytes_Clone {w : World} {S : Nat → Prop} {v : Value} {n : Nat} {cs : List Value} (h : Rd w S 1 v n cs) (h1 : ∀ u ∈ cs, u.oneCell' = true) (hb : n ≤ 140737488355328) :
    Calls Try.prog 52 #[v] w fun e w' => ∃ p c, e = .returned (.slice p n c) ∧ w'.ownsRow w.heap.size 5 1 (.slice p n c) n cs ∧ Below w.heap.size w w' := by
  obtain ⟨i0, hi, hz0, hz1, hz2⟩ := info_parts infoB
  obtain ⟨hl, p, c, rfl, hc, hm, hr⟩ := h
  have q := fun (w : World) (a : Option Addr) (n c n' c' : Nat) => Lib.run_eql_slice_nil (P := Try.prog) w 30 5 a n c n' c' Try.underlying30
  cases p with
  | none =>
    have hn : n = 0 := by
      rcases Nat.eq_zero_or_pos n with h | h
      · exact h
      · obtain ⟨b, off, h', _⟩ := hr h; cases h'
    subst hn
    have : cs = [] := List.eq_nil_of_length_eq_zero (by simpa using hl)
    subst this
    clear hr
    go_enter Try.func52, Try.ntmps52
    go_wp2
    go_ret
    exact ⟨_, _, rfl, World.ownsRow_nil _ _ _ _, Below.refl _ _⟩
  | some a =>
    have hnew : ∀ (j : Nat) u, cs[j]? = some u → w.cell? (a.add j) = some u := by
      intro j u hu
      have hj : j < cs.length := (List.getElem?_eq_some_iff.1 hu).1
      obtain ⟨b, off, h', _, hcell⟩ := hr (by omega)
      cases h'
      have := hcell j u hu
      unfold Addr.add
      split
      · subst j; simpa using this
      · exact this
    have H := Lib.hid hnew
    have H1 := Lib.hid h1
    have Hl := Lib.hid hl
    clear hr hnew h1 hl
    go_enter Try.func52, Try.ntmps52
    go_wp2_with (at_builtin; refine wpList_append_own _ rfl _ _ 30 rfl w.heap.size 5 i0 _ 1 1 Try.underlying30 hi hz0 hz1 hz2 rfl (by decide) _ _ _ rfl (World.ownsRow_made w #[] 0 (Nat.le_refl _) (Nat.zero_le _) rfl) a n c cs rfl ?c1 ?c2 H1.out ?c4 ?c5 ?c6 ?_)
    case c1 => exact Hl.out
    case c2 => intro j u hu; exact Lib.cell?_alloc_some _ (H.out j u hu)
    case c4 => omega
    case c5 => omega
    case c6 => simp
    intro v' w1 hown hgrow hnil
    clear hnil
    obtain ⟨p, c', rfl⟩ := own_slice hown
    go_wp2
    go_ret
    refine ⟨p, c', by simp, by simpa using hown, ?_⟩
    exact ((Below.refl _ w).alloc (Nat.le_refl _) _).grown hgrow (by simp) (by intro k hk; simp [Value.ownBlock] at hk; omega)

set_option maxHeartbeats 400000 in
theorem slices_Clone_E {w : World} {S : Nat → Prop} {v : Value} {n : Nat} {cs : List Value} (h : Rd w S 4 v n cs) (h1 : ∀ u ∈ cs, u.oneCell' = true) (hb : n * 48 ≤ 140737488355328) :
    Calls Try.prog 51 #[v] w fun e w' => ∃ p c, e = .returned (.slice p n c) ∧ w'.ownsRow w.heap.size 32 4 (.slice p n c) n cs ∧ Below w.heap.size w w' := by
  obtain ⟨i0, hi, hz0, hz1, hz2⟩ := info_parts infoE
  obtain ⟨hl, p, c, rfl, hc, hm, hr⟩ := h
  have q := fun (w : World) (a : Option Addr) (n c n' c' : Nat) => Lib.run_eql_slice_nil (P := Try.prog) w 33 32 a n c n' c' Try.underlying33
  cases p with
  | none =>
    have hn : n = 0 := by
      rcases Nat.eq_zero_or_pos n with h | h
      · exact h
      · obtain ⟨b, off, h', _⟩ := hr h; cases h'
    subst hn
    have : cs = [] := List.eq_nil_of_length_eq_zero (by simpa using hl)
    subst this
    clear hr
    go_enter Try.func51, Try.ntmps51
    go_wp2
    go_ret
    exact ⟨_, _, rfl, World.ownsRow_nil _ _ _ _, Below.refl _ _⟩
  | some a =>
    have hnew : ∀ (j : Nat) u, cs[j]? = some u → w.cell? (a.add j) = some u := by
      intro j u hu
      have hj : j < cs.length := (List.getElem?_eq_some_iff.1 hu).1
      obtain ⟨b, off, h', _, hcell⟩ := hr (by omega)
      cases h'
      have := hcell j u hu
      unfold Addr.add
      split
      · subst j; simpa using this
      · exact this
    have H := Lib.hid hnew
    have H1 := Lib.hid h1
    have Hl := Lib.hid hl
    clear hr hnew h1 hl
    go_enter Try.func51, Try.ntmps51
    go_wp2_with (at_builtin; refine wpList_append_own _ rfl _ _ 33 rfl w.heap.size 32 i0 _ 4 48 Try.underlying33 hi hz0 hz1 hz2 rfl (by decide) _ _ _ rfl (World.ownsRow_made w #[] 0 (Nat.le_refl _) (Nat.zero_le _) rfl) a n c cs rfl ?c1 ?c2 H1.out ?c4 ?c5 ?c6 ?_)
    case c1 => exact Hl.out
    case c2 => intro j u hu; exact Lib.cell?_alloc_some _ (H.out j u hu)
    case c4 => omega
    case c5 => omega
    case c6 => simp
    intro v' w1 hown hgrow hnil
    clear hnil
    obtain ⟨p, c', rfl⟩ := own_slice hown
    go_wp2
    go_ret
    refine ⟨p, c', by simp, by simpa using hown, ?_⟩
    exact ((Below.refl _ w).alloc (Nat.le_refl _) _).grown hgrow (by simp) (by intro k hk; simp [Value.ownBlock] at hk; omega)

end Go.Proofs.Ytgmekodfkhihiaa
