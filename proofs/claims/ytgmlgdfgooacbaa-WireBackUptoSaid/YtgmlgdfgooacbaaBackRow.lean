/-
  WireBack returns true, and its arguments read as they did. Condition: the arguments are together of bulk at most 1048576 (the second form of the statement).
-/
import Derived.Test.YtgmlgdfgooacbaaRows
import Derived.Test.YtgmlgdfgooacbaaWback
import Derived.Test.YtgmlgdfgooacbaaOpenT
import Derived.Deep.CondSized
import Derived.JoinedCond
import Derived.Carry
namespace Go.Proofs.Ytgmlgdfgooacbaa
open Go.RowKit Go.ChangeShapes Go.WideShapes Go.ChangeAt Go.Deep

theorem bulk_one {H : Type} (d : DataW H) : 1 ≤ Rows.uptoBulk d := by
  cases d with
  | lit l => cases l <;> simp [Rows.uptoBulk]
  | _ => simp [Rows.uptoBulk]
theorem bulk_length {H : Type} (l : List (DataW H)) : l.length ≤ Rows.uptoBulkAll l := by
  induction l with
  | nil => simp [Rows.uptoBulkAll]
  | cons x r ih => have := bulk_one x; simp only [Rows.uptoBulkAll, List.length_cons]; omega

/-- A slice of bytes is no longer than its reading's bulk. -/
theorem bytes_bulk {H : Type} {enc : TypeId × Value → H} {w : World} {fuel n : Nat} {p : Option Addr} {c : Nat} {y : DataW H × List MemPlace} (h : DataW.trod enc Try.prog w 0 (fun _ => true) true fuel 23 [.slice p n c] = some y) : n ≤ Rows.uptoBulk y.1 := by
  rcases open_ints Try.underlying23 Try.underlying5 cells1 h with ⟨hcs, rfl⟩ | ⟨a, len, cap, zs, hcs, _, hl, hm, hz, rfl, _, _⟩
  · injection hcs with hv
    injection hv with _ hv
    subst hv
    exact Nat.zero_le _
  · injection hcs with hv
    injection hv with _ hv
    subst hv
    simp only [if_true] at hz
    have h1 := bulk_length (lits (H := H) .u8 (zs.take n))
    simp only [Rows.uptoBulk]
    have h2 : (lits (H := H) .u8 (zs.take n)).length = n := by simp only [lits, List.length_map, List.length_take]; omega
    omega

theorem canRead_back : ∀ t ∈ ([22, 62, 23] : List TypeId), CanRead t := by
  intro t ht
  simp only [List.mem_cons, List.not_mem_nil, or_false] at ht
  rcases ht with rfl | rfl | rfl <;> exact ⟨by kernel_rfl, of_decide_eq_true (by kernel_rfl)⟩

set_option maxRecDepth 100000 in
theorem back_lifted (os : Os) (started : os.Started) (H : Type) (enc : TypeId × Value → H) (F : Stop.Interp) :
    ReturnsInHanded {} Try.checked os 7 .any ((Rows.OpenSpec.upto Rows.wireBackSpec).pre6 enc Try.prog Try.f7 Rows.wireBackUptoRow.domain false) (((Rows.OpenSpec.upto Rows.wireBackSpec).at F).post enc Try.prog Try.f7 false true false false) := by
  refine returnsInHanded_of_cond_sized (C := Try.checked) (s := Rows.OpenSpec.upto Rows.wireBackSpec) (k := Rows.uptoSmall) rfl own started (by kernel_rfl) Try.func7
    (OpenSpec.witness (enc := enc) (C := Try.checked) (s := Rows.OpenSpec.upto Rows.wireBackSpec) (k := Rows.uptoSmall) rfl false ⟨#[], #[.slice none 0 0, .int .u16 0, .slice none 0 0], []⟩ 8 (by kernel_rfl) (by kernel_rfl) (by kernel_rfl)
      (x := ([.nil, .lit (.int .u16 0), .nil], [], [])) (by kernel_rfl) rfl (by kernel_rfl)) ?_
  intro W base args ds gs before hval0 hW _ hk hsz0 _
  have hsz : (DataW.weightsEach Try.prog (Try.f7.params.toList ++ (Rows.OpenSpec.upto Rows.wireBackSpec).bare.plain.varTypes Try.prog) (ds ++ gs)).all (· ≤ reachBytes) = true := hsz0
  clear hsz0
  have hval : ∀ (j : Nat) t v, Try.f7.params[j]? = some t → args[j]? = some v → Value.okWide Try.prog W .any base t v := hval0
  have hW' := hW
  obtain ⟨p, q, hA0, hV, rfl, _, _⟩ := hW
  have hA : DataW.TrodAll enc Try.prog W 0 (fun _ => true) true Try.f7.params.toList args.toList ds p := hA0
  rw [Try.params7] at hA hval hsz
  have hA1 := hA
  obtain ⟨v0, v1, v2, d0, d1, d2, p0, p1, p2, rfl, rfl, rfl, h0, h1, h2⟩ := trodAll_three hA
  obtain ⟨rfl, rfl⟩ := trodVars_none hV
  obtain ⟨ts, hT, hO⟩ := open_things h0 (okWide_slice Try.underlying22 (hval 0 22 v0 rfl rfl)) (fun n hn => by simpa using List.all_eq_true.1 hsz _ (DataW.weights_mem_each (j := 0) (t := 22) rfl rfl n hn))
  obtain ⟨x1, rfl, rfl, rfl, w1⟩ := open_int Try.underlying62 (hval 1 62 v1 rfl rfl) h1
  obtain ⟨a2, l2, k2, hv2⟩ := okWide_slice Try.underlying23 (hval 2 23 v2 rfl rfl)
  subst hv2
  obtain ⟨fu2, tr2⟩ := h2
  obtain ⟨be, Hbe, Nbe, _⟩ := open_bytes (v := .slice a2 l2 k2) tr2
  have hb := bytes_bulk (p := a2) (n := l2) (c := k2) tr2
  have hbound : Rows.uptoBulkAll (H := H) ([d0, .lit (.int .u16 x1), d2] ++ []) ≤ 1048576 := of_decide_eq_true hk
  have hl2 : be.length = l2 := by
    obtain ⟨_, _, _, e, _⟩ := Hbe
    injection e with _ e
    exact e.symm
  have hlen : be.length ≤ 70368744177664 := by
    have hb' : l2 ≤ Rows.uptoBulk d2 := hb
    simp only [Rows.uptoBulkAll, List.append_nil] at hbound
    rw [hl2]
    omega
  have hx := u16_bounds w1
  obtain ⟨cut, rfl⟩ := Int.eq_ofNat_of_zero_le hx.1
  clear hA0 hval0
  refine (back_walk (cut := cut) hT hO (fun _ h => h) Hbe Nbe (fun _ h => h) hlen (by omega)).mono fun e W' ⟨he, hb⟩ => ?_
  subst he
  exact ⟨_, rfl, _, _, _, [], _, [], hW', trodAll_mk1 (shut_bool Try.underlying4 true), args_kept _ canRead_back hA1 hb (fun x hx => hW'.lt x (by simpa using hx)), rfl, hb.frame _, fun h => by cases h⟩

theorem back_holds : Rows.WireBackUptoSaid :=
  OpenClaim.holds_of_cond 7 Try.f7 rfl rfl rfl rfl rfl rfl rfl ⟨rfl, rfl, rfl, rfl, rfl⟩ rfl rfl rfl rfl rfl (by kernel_rfl) Try.func7 (by kernel_rfl)
    (of_decide_eq_true (by kernel_rfl)) (by unfold Func.isWrapper; first | (rw [if_pos (by decide +kernel)]; kernel_rfl) | (rw [if_neg (by decide +kernel)]; exact ⟨rfl, rfl⟩))
    (fun os started H enc _ F => back_lifted os started H enc F)
#print axioms back_holds
end Go.Proofs.Ytgmlgdfgooacbaa
