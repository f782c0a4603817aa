/-
  The reference's part: the contract.
-/
import Derived.Test.YtmoifhoncanjjaaRf18
namespace Go.Proofs.Ytmoifhoncanjjaa
open Go.RowKit
set_option linter.unusedSimpArgs false

def partOf (op : Int) (ab : Bool) (l : List It) : List It := l.filter fun x => decide (op < x.op) == ab
theorem partOf_snoc (op : Int) (ab : Bool) (l : List It) (k : Nat) (x : It) (h : l[k]? = some x) : partOf op ab (l.take (k + 1)) = if (decide (op < x.op) == ab) = true then partOf op ab (l.take k) ++ [x] else partOf op ab (l.take k) := by
  have hk : k < l.length := (List.getElem?_eq_some_iff.1 h).1
  rw [take_snoc l k hk]
  unfold partOf
  rw [List.filter_append]
  have e : l[k] = x := (List.getElem?_eq_some_iff.1 h).2
  rw [e]
  split <;> simp_all

/-- A row of items of the call's own, the commands in S. -/
def ItsOwn (w0 w : World) (S : Nat → Prop) (base : Nat) (v : Value) (l : List It) : Prop := ∃ cs, w.ownsRow base 77 5 v l.length cs ∧ Els (ItR (CmdN w0 S)) 5 cs l

set_option maxHeartbeats 1600000 in
theorem ref_part {w : World} {S : Nat → Prop} {b : Nat} {m op : Int} {ab : Bool} {es : List Ent} (h : RLog w S b m es) (h2 : es.length ≤ 64) :
    Calls Try.prog 43 #[.pointer (some ⟨b, 0, none⟩), .int .u64 op, .bool ab] w fun x w' => ∃ p c, x = .returned (.slice p (partOf op ab (its m es)).length c) ∧
      ItsOwn w w' S w.heap.size (.slice p (partOf op ab (its m es)).length c) (partOf op ab (its m es)) ∧ Below w.heap.size w w' := by
  obtain ⟨p, c, hB, hI, -⟩ := h
  have HB := Lib.hid hB
  have HI := Lib.hid hI
  clear hB hI
  go_enter Try.func43, Try.ntmps43
  go_wp2_with fail
  go_loopw [7, 8] (fun out i wr => ∃ (k n : Nat) (p : Option Addr) (c : Nat), k ≤ es.length ∧ i = .int .i64 k ∧ out = .slice p n c ∧ n = (partOf op ab ((its m es).take k)).length ∧ n ≤ k ∧ ItsOwn w wr S w.heap.size out (partOf op ab ((its m es).take k)) ∧ Below w.heap.size w wr) (fun _ i _ => es.length - (intOf i).toNat)
  case atStart => exact ⟨0, 0, none, 0, Nat.zero_le _, rfl, rfl, rfl, Nat.le_refl _, ⟨[], by simpa [partOf] using World.ownsRow_nil _ _ _ _, by simpa [partOf] using Els.nil _ _⟩, Below.refl _ _⟩
  case round =>
    obtain ⟨k, n, p1, c1, hk, rfl, rfl, hn, hnk, hown, hb⟩ := hrel
    obtain ⟨a0, a1, f0, f1, hz⟩ := (HB.out.below hb).c2
    have Ho := Lib.hid hown
    have Hb := Lib.hid hb
    have Hn := Lib.hid hn
    clear hown hb hn
    by_cases hlt : k < es.length
    · obtain ⟨g, off, s, rfl, hc1, hc2, hg, hq, d0, d1, d2, d3, d4⟩ := HI.out.at hlt
      obtain ⟨hc, -⟩ := bcell Hb.out
      have lt := lt_of_cell d0
      rw [← hc g _ lt] at d0 d1 d2 d3 d4
      obtain ⟨sp, sc, rfl⟩ := Rd.slice hq.1
      have hs := partOf_snoc op ab (its m es) k _ (its_at hlt)
      have Hq := Lib.hid hq
      have Hs := Lib.hid hs
      clear hq hg hs hc
      by_cases ht : (decide (op < m + k + 1) == ab) = true
      · have ht' := Lib.hid ht
        have hlen : (partOf op ab ((its m es).take (k + 1))).length = n + 1 := by
          rw [Hs.out, if_pos ht, List.length_append, ← Hn.out]
          rfl
        have Hlen := Lib.hid hlen
        obtain ⟨cs', ho, hE⟩ := Ho.out
        rw [← Hn.out] at ho
        have HO := Lib.hid (own_alloc ho (.cells #[.int .u64 (m + k + 1), .int .u64 es[k].t, .int .u32 es[k].c, .int .u64 es[k].r, .slice sp es[k].cmd.length sc] 77))
        have HE := Lib.hid hE
        have Hbz := Lib.hid Hb.out.size
        clear ho hE hlen
        go_wp2_with (at_builtin; go_loud (refine wpList_append_N rfl (.tmp 30) (.tmp 38) 56 rfl w.heap.size 77 (.agg #[.int .u64 0, .int .u64 0, .int .u32 0, .int .u64 0, .slice none 0 0]) 5 56 Try.underlying56 infoI rfl (by decide) (.slice p1 n c1) n cs' (fun j => j = wr.heap.size) rfl HO.out (some ⟨wr.heap.size, 0, none⟩) 1 1 [.int .u64 (m + k + 1), .int .u64 es[k].t, .int .u32 es[k].c, .int .u64 es[k].r, .slice sp es[k].cmd.length sc] rfl (Rd.made1 wr _ 5 [.int .u64 (m + k + 1), .int .u64 es[k].t, .int .u32 es[k].c, .int .u64 es[k].r, .slice sp es[k].cmd.length sc] rfl) (by intro u hu; simp at hu; rcases hu with rfl | rfl | rfl | rfl | rfl <;> rfl) NilOk.some (by unfold maxLen; omega) (by omega) (by have := Hbz.out; rw [World.size_alloc]; omega) ?_))
        intro v' w2 hown hgrow
        obtain ⟨p2, c2, rfl⟩ := own_slice hown
        have hfin : ItsOwn w w2 S w.heap.size (.slice p2 (n + 1) c2) (partOf op ab ((its m es).take (k + 1))) := by
          refine ⟨_, by rw [Hlen.out]; exact hown, ?_⟩
          rw [Hs.out, if_pos ht'.out]
          refine Els.snoc HE.out rfl ⟨_, rfl, ?_⟩
          exact Hq.out
        have hbl : Below w.heap.size w w2 := by
          have := Hbz.out
          exact (Hb.out.alloc this _).grown hgrow (by rw [World.size_alloc]; omega) (by intro j hj; exact (HO.out.lt j hj).1)
        have Hfin := Lib.hid hfin
        have Hbl := Lib.hid hbl
        clear hown hgrow hfin hbl
        go_wp2_with fail
        go_roundw
        case rel => exact ⟨k + 1, n + 1, p2, c2, by omega, by go_num, rfl, Hlen.out.symm, by omega, Hfin.out, Hbl.out⟩
        case measure => simp [intOf]; omega
      · have ht' := Lib.hid ht
        have htt : (decide (op < m + k + 1) == ab) = false := by simpa using ht
        clear ht
        have hsame : partOf op ab ((its m es).take (k + 1)) = partOf op ab ((its m es).take k) := by rw [Hs.out, if_neg ht'.out]
        have Hsame := Lib.hid hsame
        clear hsame
        go_wp2_with fail
        go_roundw
        case rel =>
          refine ⟨k + 1, n, p1, c1, by omega, by go_num, rfl, ?_, by omega, ?_, Hb.out⟩
          · rw [Hsame.out]; exact Hn.out
          · rw [Hsame.out]; exact Ho.out
        case measure => simp [intOf]; omega
    · obtain rfl : k = es.length := by omega
      have Htk : (its m es).take es.length = its m es := by rw [← its_len m es, List.take_length]
      have htk := Lib.hid Htk
      clear Htk
      go_wp2_with fail
      go_ret
      have h1 := Hn.out
      have h2 := Ho.out
      rw [htk.out] at h1 h2
      subst h1
      exact ⟨p1, c1, rfl, h2, Hb.out⟩
end Go.Proofs.Ytmoifhoncanjjaa
