/-
  Append: the contract.
-/
import Derived.Test.YtmoifhoncanjjaaLog
import Derived.Deep.RegionLaw
import Derived.Deep.AppendLies
namespace Go.Proofs.Ytmoifhoncanjjaa
open Go.RowKit

set_option maxHeartbeats 1600000 in
theorem log_Append {w : World} {S T : Nat → Prop} {b : Nat} {base : Int} {es : List Ent} {e : Ent} {s : Value} (h : LogAt w S b base es) (ok : LogOk base es) (hs : CmdRd w T s e.cmd) (he : e.cmd.length ≤ 140737488355328) (hl : es.length < 64) :
    Calls Try.prog 8 #[.pointer (some ⟨b, 0, none⟩), entVal e s] w fun x w' => x = .returned (.tuple #[.int .u64 (base + es.length + 1), .int .i64 0]) ∧ LogAt w' (More S w w') b base (es ++ [e]) ∧ Ext (· = b) w w' := by
  obtain ⟨i0, hi, iz0, iz1, iz2⟩ := info_parts infoE
  obtain ⟨p, c, hB, hE, hSb⟩ := h
  obtain ⟨sp, sc, rfl⟩ := Rd.slice hs
  obtain ⟨cs, hr, hEl⟩ := hE
  have hlt := hB.lt
  have HB := Lib.hid hB
  have Hr := Lib.hid hr
  have HEl := Lib.hid hEl
  have Hs := Lib.hid hs
  have Hok := Lib.hid ok
  clear hB hr hEl hs ok
  unfold entVal
  go_enter Try.func8, Try.ntmps8
  go_wp2_with fail
  refine (log_none (Blk.alloc HB.out _)).mono ?_
  rintro x w' ⟨rfl, rfl⟩
  obtain ⟨a0, a1, a2, f0, f1, f2, hz⟩ := (Blk.alloc HB.out (.cells #[.int .u64 e.t, .int .u32 e.c, .int .u64 e.r, .slice sp e.cmd.length sc] 33)).c3
  have kE := Blk.new w 33 #[.int .u64 e.t, .int .u32 e.c, .int .u64 e.r, .slice sp e.cmd.length sc]
  obtain ⟨b0, b1, b2, b3, g0, g1, g2, g3, hz2⟩ := kE.c4
  have HE := Lib.hid kE
  have HB' := Lib.hid (Blk.alloc HB.out (.cells #[.int .u64 e.t, .int .u32 e.c, .int .u64 e.r, .slice sp e.cmd.length sc] 33))
  have Hr' := Lib.hid (Rd.alloc Hr.out (by decide) (.cells #[.int .u64 e.t, .int .u32 e.c, .int .u64 e.r, .slice sp e.cmd.length sc] 33))
  have Hs' := Lib.hid (Rd.alloc Hs.out (by decide) (.cells #[.int .u64 e.t, .int .u32 e.c, .int .u64 e.r, .slice sp e.cmd.length sc] 33))
  have Hbl := Lib.hid ((Below.refl w.heap.size w).alloc (Nat.le_refl _) (.cells #[.int .u64 e.t, .int .u32 e.c, .int .u64 e.r, .slice sp e.cmd.length sc] 33))
  clear kE
  go_wp2_with fail
  generalize w.alloc (.cells #[.int .u64 e.t, .int .u32 e.c, .int .u64 e.r, .slice sp e.cmd.length sc] 33) = W at *
  have hgw : w.heap.size < W.heap.size := HE.out.lt
  go_region_law
    (first
      | (go_simp; go_at_call 31
         refine (slices_Clone_E (S := S) (cs := cs) (Rd.drew Hr'.out) (Els.one HEl.out (EntR.one CmdRd.one) (by decide)) (by omega)).mono ?_
         rintro x w2 ⟨p2, c2, rfl, hown2, hbl2⟩
         have kb2 := Blk.below (Blk.drew HB'.out) hbl2
         have ke2 := Blk.below (Blk.drew HE.out) hbl2
         obtain ⟨m0, m1, m2, m3, m4, m5, m6⟩ := kb2.c3
         obtain ⟨n0, n1, n2, n3, n4, n5, n6, n7, n8⟩ := ke2.c4
         have Kb2 := Lib.hid kb2
         have Ke2 := Lib.hid ke2
         clear kb2 ke2
         have Hown2 := Lib.hid hown2
         have Hbl2 := Lib.hid hbl2
         have hz3 : W.heap.size ≤ w2.heap.size := hbl2.size
         clear hown2 hbl2)
      | (go_simp; go_at_call 32
         refine (own_any (S := T) e (Rd.below (Rd.drew Hs'.out) (by decide) Hbl2.out) he).mono ?_
         rintro x w3 ⟨p3, c3, rfl, hown3, hbl3⟩
         have kb3 := Blk.below Kb2.out hbl3
         have ke3 := Blk.below Ke2.out hbl3
         obtain ⟨q0, q1, q2, q3, q4, q5, q6⟩ := kb3.c3
         obtain ⟨r0, r1, r2, r3, r4, r5, r6, r7, r8⟩ := ke3.c4
         have Kb3 := Lib.hid kb3
         have Ke3 := Lib.hid ke3
         clear kb3 ke3
         have Hown3 := Lib.hid hown3
         have Hbl3 := Lib.hid hbl3
         have hz4 : w2.heap.size ≤ w3.heap.size := hbl3.size
         clear hown3 hbl3
         unfold entVal)
      | (refine step_append_lies _ ?a1 (.tmp 21) (.tmp 24) 23 ?a2 (w.heap.size + 1) 33 i0 (.agg #[.int .u64 0, .int .u32 0, .int .u64 0, .slice none 0 0]) 4 48 Try.underlying23 hi iz0 iz1 iz2 rfl ?a3 (.slice p2 es.length c2) es.length cs ?a4 ?a5 ⟨w3.heap.size, 0, none⟩ 1 1 [.int .u64 e.t, .int .u32 e.c, .int .u64 e.r, .slice p3 e.cmd.length c3] ?a6 ?a7 ?a8 ?a9 ?b1 ?b2 ?b3 ?b4 (w3.heap.size + 1) ?b5 ?_
         case a1 => rfl
         case a2 => rfl
         case a3 => omega
         case a4 => rfl
         case a5 => exact own_alloc (own_below (own_base Hown2.out hgw) Hbl3.out) _
         case a6 => rfl
         case a7 => rfl
         case a8 => exact news_of_block (heap_alloc_new w3 _)
         case a9 => exact ent_one _ _
         case b1 => omega
         case b2 => unfold maxLen; omega
         case b3 => omega
         case b4 => first | omega | (rw [World.size_alloc]; omega)
         case b5 => first | rfl | exact World.size_alloc _ _
         intro g4 cap4 w4 hown4 hgrow4 hat4 hlt4
         have Hown4 := Lib.hid hown4
         have Hgrow4 := Lib.hid hgrow4
         have Hat4 := Lib.hid hat4
         have kb3' := Blk.alloc Kb3.out (.cells #[.int .u64 e.t, .int .u32 e.c, .int .u64 e.r, .slice p3 e.cmd.length c3] 33)
         have ke3' := Blk.alloc Ke3.out (.cells #[.int .u64 e.t, .int .u32 e.c, .int .u64 e.r, .slice p3 e.cmd.length c3] 33)
         have ho3' := own_alloc (own_below (own_base Hown2.out hgw) Hbl3.out) (.cells #[.int .u64 e.t, .int .u32 e.c, .int .u64 e.r, .slice p3 e.cmd.length c3] 33)
         have kb4 := Blk.grown kb3' hgrow4 (fun he => own_ne ho3' kb3' (by decide) he.symm)
         have ke4 := Blk.grown ke3' hgrow4 (fun he => absurd (ho3'.lt _ he.symm).1 (Nat.not_succ_le_self _))
         clear kb3' ke3' ho3'
         obtain ⟨s0, s1, s2, s3, s4, s5, s6⟩ := kb4.c3
         obtain ⟨t0, t1, t2, t3, t4, t5, t6, t7, t8⟩ := ke4.c4
         have Kb4 := Lib.hid kb4
         have Ke4 := Lib.hid ke4
         clear kb4 ke4 hown4 hgrow4 hat4))
  all_goals
    obtain ⟨hL, hX, hK⟩ : LogAt (w4.setCell ⟨b, 1, none⟩ (.slice (some ⟨g4, 0, none⟩) (es ++ [e]).length cap4)) (More S w (w4.setCell ⟨b, 1, none⟩ (.slice (some ⟨g4, 0, none⟩) (es ++ [e]).length cap4))) b base (es ++ [e]) ∧
        Ext (· = b) w (w4.setCell ⟨b, 1, none⟩ (.slice (some ⟨g4, 0, none⟩) (es ++ [e]).length cap4)) ∧ Blk (w4.setCell ⟨b, 1, none⟩ (.slice (some ⟨g4, 0, none⟩) (es ++ [e]).length cap4)) b 67 #[.int .u64 base, .slice (some ⟨g4, 0, none⟩) (es ++ [e]).length cap4, .bool true] := by
      have hg := Hgrow4.out
      have e1 : ∀ k, k < w.heap.size → w3.heap[k]? = w.heap[k]? := fun k hk =>
        (Hbl3.out.block k (by omega)).trans ((Hbl2.out.block k (by show k < W.heap.size; omega)).trans (Hbl.out.block k hk))
      have e2 : ∀ k, k < w.heap.size → w4.heap[k]? = w.heap[k]? := fun k hk => by
        refine (hg.block k (by simp; omega) fun he => ?_).trans ((Below.heap_alloc w3 _ k (by omega)).trans (e1 k hk))
        have := (Hown2.out.lt k he.symm).1
        have : W.heap.size ≤ k := this
        omega
      have hsz4 : w3.heap.size + 1 ≤ w4.heap.size := by have := hg.size; simpa using this
      refine LogAt.stored (v0 := .slice p es.length c) hlt Kb4.out ⟨cs ++ [.int .u64 e.t, .int .u32 e.c, .int .u64 e.r, .slice p3 e.cmd.length c3], ?_, ?_⟩ hSb (fun k hk _ => e2 k hk) ?_ ?_ ?_ (by omega)
      · have h := Rd.weak (S' := More S w w4) (Rd.of_own Hown4.out) (fun k hk _ => .inr ⟨by omega, hk.2⟩) (by decide)
        simpa using h
      · refine Els.snoc (HEl.out.imp fun c e' _ ⟨s, hs, hq⟩ => ⟨s, hs, Rd.keep hq (fun k hk _ => e2 k hk) (fun k hS hk => .inl ⟨hS, hk⟩) (by decide)⟩) rfl ⟨_, rfl, ?_⟩
        have := Rd.of_own (own_grown (own_alloc Hown3.out _) (own_alloc (own_below (own_base Hown2.out hgw) Hbl3.out) _) (by decide) hg)
        exact Rd.weak this (fun k hk _ => .inr ⟨by omega, hk.2⟩) (by decide)
      · exact hg.os.trans (Hbl3.out.os.trans (Hbl2.out.os.trans Hbl.out.os))
      · exact hg.tape.trans (Hbl3.out.tape.trans (Hbl2.out.tape.trans Hbl.out.tape))
      · exact hg.output.trans (Hbl3.out.output.trans (Hbl2.out.output.trans Hbl.out.output))
    have HL := Lib.hid hL
    have HX := Lib.hid hX
    have HK := Lib.hid hK
    clear hL hX hK
    have hap : (es ++ [e]).length = es.length + 1 := by simp
    have Hap := Lib.hid hap
    clear hap
    have hnum : base + ((es.length + 1 : Nat) : Int) = base + es.length + 1 := by omega
    have Hnum := Lib.hid hnum
    clear hnum
    go_wp2_with fail
    refine (log_Op (n := es.length + 1) (m := base) (p := some ⟨g4, 0, none⟩) (c := cap4) (by have h := HK.out; rw [Hap.out] at h; exact h) Hok.out.low Hok.out.high (by omega)).mono ?_
    rintro x w5 ⟨rfl, rfl⟩
    go_wp2_with fail
    go_ret2
    rw [Hap.out] at HL HX
    rw [← Hnum.out]
    exact ⟨rfl, HL.out, HX.out⟩
end Go.Proofs.Ytmoifhoncanjjaa
