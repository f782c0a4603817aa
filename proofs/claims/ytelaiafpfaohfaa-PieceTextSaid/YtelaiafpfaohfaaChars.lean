/-
  The law's Chars, the reference's Own: the contracts. No condition but lengths far below what memory bears.
-/
import Derived.Test.YtelaiafpfaohfaaRefuse
namespace Go.Proofs.Ytelaiafpfaohfaa
open Go.RowKit
set_option linter.unusedSimpArgs false
set_option linter.unusedVariables false

/-- A string's bytes as code points. -/
def charsOf (s : ByteArray) : List Int := s.data.toList.map fun b => (b.toNat : Int)
theorem charsOf_get {s : ByteArray} {k : Nat} (h : k < s.size) (h2 : k < (charsOf s).length) : (charsOf s)[k]'h2 = ((s[k]'h).toNat : Int) := by
  simp [charsOf, ByteArray.getElem_eq_getElem_data]
/-- New code points. -/
def CharsLeft (w : World) (l : List Int) (e : Ending) (w' : World) : Prop := ∃ v, e = .returned v ∧ CharOwn w' w.heap.size v l ∧ Below w.heap.size w w'
theorem one_char {w : World} {base : Nat} (c : Int) (hb : base ≤ w.heap.size) : CharOwn (w.alloc (.cells #[.int .i32 c] 29)) base (.slice (some ⟨w.heap.size, 0, none⟩) 1 1) [c] :=
  ⟨rfl, .inr ⟨w.heap.size, 1, #[.int .i32 c], rfl, hb, heap_alloc_new w _, Nat.le_refl _, by unfold maxLen; decide, rfl, rfl⟩⟩

theorem ref_Own {w : World} {S : Nat → Prop} {p : Option Addr} {c : Nat} {l : List Int} (h : CharRd w S (.slice p l.length c) l) (hn : NilOk (.slice p l.length c)) (hl : l.length ≤ 1000000) :
    Calls Try.prog 9 #[.slice p l.length c] w (CharsLeft w l) := by
  have H := Lib.hid h
  have Hn := Lib.hid hn
  clear h hn
  go_enter Try.func9, Try.ntmps9
  go_wp2_with (at_builtin; go_loud (refine wpList_append_C rfl (.tmp 4) (.tmp 5) rfl w.heap.size (.slice none 0 0) [] l S rfl (World.ownsRow_nil _ _ _ _) p c rfl H.out Hn.out (by simp; omega) (Nat.le_refl _) ?_; intro v' w' ho hg; have HO := Lib.hid ho; have HX := Lib.hid ((Below.refl w.heap.size w).grown hg (Nat.le_refl _) (fun k hk => by simp [Value.ownBlock] at hk)); clear ho hg))
  go_ret
  exact ⟨_, rfl, HO.out, HX.out⟩

set_option maxHeartbeats 1600000 in
theorem chars_any {w : World} {s : ByteArray} (hn : s.size ≤ 1000000) :
    Calls Try.prog 22 #[.string s] w (CharsLeft w (charsOf s)) := by
  go_enter Try.func22, Try.ntmps22
  go_wp2_with fail
  go_loopw [3, 4] (fun out i wr => ∃ k : Nat, k ≤ s.size ∧ i = .int .i64 k ∧ Hid (CharOwn wr w.heap.size out ((charsOf s).take k) ∧ Below w.heap.size w wr)) (fun _ i _ => s.size - (intOf i).toNat)
  case atStart => exact ⟨0, Nat.zero_le _, rfl, Lib.hid ⟨World.ownsRow_nil _ _ _ _, Below.refl _ _⟩⟩
  case round =>
    obtain ⟨k, hk, rfl, hR⟩ := hrel
    by_cases hlt : k < s.size
    · have hk2 : k < (charsOf s).length := by unfold charsOf; rw [List.length_map]; exact hlt
      obtain ⟨x, hx⟩ : ∃ x : Int, wrap32 ((s[k]'hlt).toNat : Int) = x := ⟨_, rfl⟩
      have hxe : (charsOf s)[k]'hk2 = x := by
        rw [← hx]
        rw [charsOf_get hlt hk2]
        have h8 : (s[k]'hlt).toNat < 256 := (s[k]'hlt).toNat_lt
        show ((s[k]'hlt).toNat : Int) = wrap32 _
        unfold wrap32
        omega
      have Hts := Lib.hid (show (charsOf s).take (k + 1) = (charsOf s).take k ++ [x] from by rw [take_snoc _ k hk2, hxe])
      have hlk : ((charsOf s).take k).length ≤ 1000000 := by rw [List.length_take]; omega
      obtain ⟨ho, hX⟩ := hR.out
      have HO := Lib.hid (own_alloc ho (.cells #[.int .i32 x] 29))
      have HX := Lib.hid (hX.alloc hX.size (.cells #[.int .i32 x] 29))
      have HN := Lib.hid (one_char (w := wr) (base := 0) x (Nat.zero_le _)).rd
      clear ho hX hR hxe hk2
      generalize (charsOf s).take k = l0 at *
      go_wp2_with (at_builtin; go_loud (refine wpList_append_C rfl (.tmp 11) (.tmp 16) rfl w.heap.size _ l0 [x] _ rfl HO.out (some ⟨wr.heap.size, 0, none⟩) 1 rfl HN.out NilOk.some (by simp; omega) HX.out.size ?_; intro v' w' ho2 hg2; have HO2 := Lib.hid ho2; have HX2 := Lib.hid (HX.out.grown hg2 HX.out.size (fun j hj => (HO.out.lt j hj).1)); clear ho2 hg2))
      go_roundw
      case rel => exact ⟨k + 1, by omega, by go_num, by rw [Hts.out]; exact Lib.hid ⟨HO2.out, HX2.out⟩⟩
      case measure => simp [intOf] <;> omega
    · obtain rfl : k = s.size := by omega
      obtain ⟨ho, hX⟩ := hR.out
      rw [List.take_of_length_le (show (charsOf s).length ≤ s.size from by unfold charsOf; rw [List.length_map]; exact Nat.le_refl _)] at ho
      have HO := Lib.hid ho
      have HX := Lib.hid hX
      clear ho hX hR
      go_wp2_with fail
      go_ret
      exact ⟨_, rfl, HO.out, HX.out⟩
end Go.Proofs.Ytelaiafpfaohfaa
