/-
  piece.Table.Read: the contract. No condition but bounds far below what memory bears.
-/
import Derived.Test.YtelaiafpfaohfaaHas
namespace Go.Proofs.Ytelaiafpfaohfaa
open Go.RowKit
set_option linter.unusedSimpArgs false
set_option linter.unusedVariables false

def hasL (f s : List Int) (p : Pc) : List Int := ((if p.second then s else f).drop p.at_).take p.len
def PcsIn (f s : List Int) (ps : List Pc) : Prop := ∀ p ∈ ps, p.at_ + p.len ≤ (if p.second then s else f).length
def tot (ps : List Pc) : Nat := (ps.map Pc.len).sum
theorem tot_cons (p : Pc) (r : List Pc) : tot (p :: r) = p.len + tot r := by simp [tot]
theorem tot_app (l r : List Pc) : tot (l ++ r) = tot l + tot r := by simp [tot]
theorem tot_take (l : List Pc) (k : Nat) : tot (l.take k) ≤ tot l := by
  conv => rhs; rw [← List.take_append_drop k l, tot_app]
  omega
theorem PcsIn.ok {f s : List Int} {ps : List Pc} (h : PcsIn f s ps) (hf : f.length ≤ 1000000) (hs : s.length ≤ 1000000) : PcsOk ps := fun p hp => by
  have := h p hp
  split at this <;> omega
theorem partL_in {f s : List Int} : ∀ (ps : List Pc) (pos : Nat), PcsIn f s ps → PcsIn f s (partL ps pos).1 ∧ PcsIn f s (partL ps pos).2
  | [], pos, h => ⟨(by intro p hp; cases hp), (by intro p hp; cases hp)⟩
  | p :: r, pos, h => by
    have hp := h p (by simp)
    have hr : PcsIn f s r := fun x hx => h x (by simp [hx])
    unfold partL
    by_cases h1 : pos < p.len
    · rw [if_pos h1]
      by_cases h2 : pos = 0
      · rw [if_pos h2]
        exact ⟨(by intro x hx; cases hx), h⟩
      · rw [if_neg h2]
        refine ⟨fun x hx => ?_, fun x hx => ?_⟩
        · obtain rfl := List.mem_singleton.1 hx
          show p.at_ + pos ≤ _
          exact Nat.le_trans (by omega) hp
        · rcases List.mem_cons.1 hx with rfl | hx
          · show p.at_ + pos + (p.len - pos) ≤ _
            exact Nat.le_trans (by omega) hp
          · exact hr x hx
    · rw [if_neg h1]
      obtain ⟨i1, i2⟩ := partL_in r (pos - p.len) hr
      refine ⟨fun x hx => ?_, i2⟩
      rcases List.mem_cons.1 hx with rfl | hx
      · exact hp
      · exact i1 x hx
theorem partL_tot : ∀ (ps : List Pc) (pos : Nat), tot (partL ps pos).1 + tot (partL ps pos).2 = tot ps
  | [], pos => rfl
  | p :: r, pos => by
    unfold partL
    by_cases h1 : pos < p.len
    · rw [if_pos h1]
      by_cases h2 : pos = 0
      · rw [if_pos h2]
        simp [tot]
      · rw [if_neg h2]
        simp only [tot_cons]
        show pos + tot [] + (p.len - pos + tot r) = _
        simp [tot]; omega
    · rw [if_neg h1]
      have := partL_tot r (pos - p.len)
      simp only [tot_cons]
      omega
theorem partL_len : ∀ (ps : List Pc) (pos : Nat), (partL ps pos).1.length ≤ ps.length ∧ (partL ps pos).2.length ≤ ps.length
  | [], pos => ⟨Nat.le_refl _, Nat.le_refl _⟩
  | p :: r, pos => by
    unfold partL
    by_cases h1 : pos < p.len
    · rw [if_pos h1]
      by_cases h2 : pos = 0
      · rw [if_pos h2]; simp
      · rw [if_neg h2]; simp
    · rw [if_neg h1]
      obtain ⟨i1, i2⟩ := partL_len r (pos - p.len)
      simp only [List.length_cons]
      exact ⟨by omega, by omega⟩
theorem hasL_len {f s : List Int} {p : Pc} (h : p.at_ + p.len ≤ (if p.second then s else f).length) : (hasL f s p).length = p.len := by
  unfold hasL
  rw [List.length_take, List.length_drop]
  omega
theorem flat_len {f s : List Int} : ∀ (l : List Pc), PcsIn f s l → (l.flatMap (hasL f s)).length = tot l
  | [], _ => rfl
  | p :: r, h => by
    rw [List.flatMap_cons, List.length_append, hasL_len (h p (by simp)), flat_len r (fun x hx => h x (by simp [hx])), tot_cons]
def readL (f s : List Int) (ps : List Pc) (pos n : Nat) : List Int := (partL (partL ps pos).2 n).1.flatMap (hasL f s)

theorem TabS.below {w w' : World} {S : Nat → Prop} {b : Nat} {f s : List Int} {ps : List Pc} {n : Nat} (h : TabS w S b f s ps n) (hb : Below w.heap.size w w') : TabS w' S b f s ps n := by
  obtain ⟨vf, vs, vp, hB, hf, hs, hp, hnf, hns⟩ := h
  exact ⟨vf, vs, vp, hB.below hb, hf.below hb, hs.below hb, hp.below hb, hnf, hns⟩
theorem TabAt.below {w w' : World} {b : Nat} {f s : List Int} {ps : List Pc} {n : Nat} (h : TabAt w b f s ps n) (hb : Below w.heap.size w w') : TabAt w' b f s ps n := TabS.below h hb
/-- What Read leaves. -/
def Reads (w : World) (l : List Int) (e : Ending) (w' : World) : Prop := ∃ v, e = .returned (.tuple #[v, .int .i64 0]) ∧ CharOwn w' w.heap.size v l ∧ Below w.heap.size w w'

set_option maxHeartbeats 3200000 in
theorem read_any {w : World} {S : Nat → Prop} {b : Nat} {f s : List Int} {ps : List Pc} {long pos n : Nat} (h : TabS w S b f s ps long) (hin : PcsIn f s ps) (hf : f.length ≤ 1000000) (hs : s.length ≤ 1000000) (hps : ps.length ≤ 1000000) (ht : tot ps ≤ 1000000) (hl : long ≤ 1000000) (hpn : pos + n ≤ long) :
    Calls Try.prog 16 #[.pointer (some ⟨b, 0, none⟩), .int .i64 pos, .int .i64 n] w (Reads w (readL f s ps pos n)) := by
  have h0 := h
  obtain ⟨vf, vs, vp, hB, hf', hs', hp, hnf, hns⟩ := h
  have hright := tab_right (pos := pos) (n := n) hB (by omega) (by omega) (by omega)
  rw [show inText long pos n = true from by unfold inText; exact decide_eq_true (by omega), if_pos rfl] at hright
  have Hr := Lib.hid hright
  have Hp := Lib.hid hp
  have H0 := Lib.hid h0
  have Hin := Lib.hid hin
  have a2 : w.cell? ⟨b, 2, none⟩ = some vp := hB.cell 2
  clear hright hf' hs' hp hnf hns h0 hB hin
  go_enter Try.func16, Try.ntmps16
  go_wp2_with fail
  refine Hr.out.mono ?_
  rintro e w' ⟨rfl, rfl⟩
  go_wp2_with fail
  refine (part_any Hp.out (Hin.out.ok hf hs) hps (by omega)).mono ?_
  rintro e w1 ⟨v1, v2, rfl, hv1, hv2, hX1⟩
  have Hv2 := Lib.hid hv2
  have HX1 := Lib.hid hX1
  have Hin1 := Lib.hid (partL_in ps pos Hin.out).2
  have Hlen1 := Lib.hid (partL_len ps pos).2
  have Htot1 := Lib.hid (partL_tot ps pos)
  obtain ⟨rest, hrest⟩ : ∃ r, r = (partL ps pos).2 := ⟨_, rfl⟩
  have Hrest := Lib.hid hrest
  rw [← hrest] at Hv2 Hin1 Hlen1 Htot1
  clear hv1 hv2 hX1 hrest
  go_wp2_with fail
  refine (part_any Hv2.out (Hin1.out.ok hf hs) (Nat.le_trans Hlen1.out hps) (by omega)).mono ?_
  rintro e w2 ⟨v3, v4, rfl, hv3, hv4, hX2⟩
  have hlen2 := (partL_len rest n).1
  have hin2 := (partL_in rest n Hin1.out).1
  have htot2 := partL_tot rest n
  have hread : readL f s ps pos n = (partL rest n).1.flatMap (hasL f s) := by rw [Hrest.out]; rfl
  generalize (partL rest n).1 = l at *
  have Hread := Lib.hid hread
  have Hv3 := Lib.hid hv3
  have HX2 := Lib.hid (HX1.out.trans (hX2.mono HX1.out.size))
  have Hin2 := Lib.hid hin2
  have htl : tot l ≤ 1000000 := by have := Htot1.out; omega
  have hll : l.length ≤ 1000000 := by have := Hlen1.out; omega
  have HT := Lib.hid (H0.out.below HX2.out)
  obtain ⟨p3, c3, rfl⟩ := Rd.slice hv3
  clear hread hv3 hv4 hX2 hin2 hlen2 htot2
  go_wp2_with fail
  go_loopw [13, 40] (fun out i wr => ∃ k : Nat, k ≤ l.length ∧ i = .int .i64 k ∧ Hid (CharOwn wr w2.heap.size out ((l.take k).flatMap (hasL f s)) ∧ Below w2.heap.size w2 wr)) (fun _ i _ => l.length - (intOf i).toNat)
  case atStart => exact ⟨0, Nat.zero_le _, rfl, Lib.hid ⟨World.ownsRow_nil _ _ _ _, Below.refl _ _⟩⟩
  case round =>
    obtain ⟨k, hk, rfl, hR⟩ := hrel
    by_cases hlt : k < l.length
    · have hpk := Hin2.out l[k] (List.getElem_mem hlt)
      obtain ⟨b2, off, he, _, _, hcell⟩ := Rd.addr Hv3.out (by omega)
      subst he
      obtain ⟨e0, e1, e2⟩ := pc_at hlt
      have x0 := hcell _ _ e0
      have x1 := hcell _ _ e1
      have x2 := hcell _ _ e2
      clear e0 e1 e2
      have e0 : w2.cell? ⟨b2, off + k * 3, none⟩ = some (.bool l[k].second) := x0
      have e1 : w2.cell? ⟨b2, off + k * 3 + 1, none⟩ = some (.int .i64 l[k].at_) := x1
      have e2 : w2.cell? ⟨b2, off + k * 3 + 2, none⟩ = some (.int .i64 l[k].len) := x2
      clear x0 x1 x2
      have ltb := lt_of_cell e0
      obtain ⟨ho, hX⟩ := hR.out
      obtain ⟨hc, -⟩ := bcell hX
      rw [← hc b2 _ ltb] at e0 e1 e2
      have hts := take_snoc l k hlt
      have hflen : ((l.take k).flatMap (hasL f s)).length ≤ 1000000 := by
        rw [flat_len _ (fun x hx => Hin2.out x (List.mem_of_mem_take hx))]
        exact Nat.le_trans (tot_take l k) htl
      have hplen : (hasL f s l[k]).length ≤ 1000000 := by
        rw [hasL_len hpk]
        have h1 := tot_take l (k + 1)
        rw [hts, tot_app, tot_cons] at h1
        omega
      have Hnx := Lib.hid (show (l.take (k + 1)).flatMap (hasL f s) = (l.take k).flatMap (hasL f s) ++ hasL f s l[k] from by rw [hts, List.flatMap_append]; simp)
      generalize (l.take k).flatMap (hasL f s) = out1 at *
      generalize l[k]'hlt = pc at *
      obtain ⟨sec, at_, ln⟩ := pc
      have hszw := hX.size
      have HT1 := Lib.hid ((HT.out.below hX).below ((Below.refl wr.heap.size wr).alloc (Nat.le_refl _) (.cells #[.bool sec, .int .i64 at_, .int .i64 ln] 58)))
      have HO1 := Lib.hid (show CharOwn (wr.alloc (.cells #[.bool sec, .int .i64 at_, .int .i64 ln] 58)) w2.heap.size _ out1 from own_alloc ho _)
      have HX3 := Lib.hid (hX.alloc hszw (.cells #[.bool sec, .int .i64 at_, .int .i64 ln] 58))
      have hK8 := Blk.new wr 58 #[.bool sec, .int .i64 at_, .int .i64 ln]
      obtain ⟨g0, g1, g2, -, -, -, -⟩ := hK8.c3
      clear ho hX hc hcell hts hR hK8
      go_wp2_with fail
      have hpk' : at_ + ln ≤ 70368744177664 := by
        have h : at_ + ln ≤ (if sec then s else f).length := hpk
        split at h <;> omega
      have hhas := has_any (p := ⟨sec, at_, ln⟩) HT1.out hpk hpk'
      change Calls _ _ _ _ (Has _ S (hasL f s ⟨sec, at_, ln⟩)) at hhas
      generalize hasL f s ⟨sec, at_, ln⟩ = r at *
      refine hhas.mono ?_
      rintro e W3 ⟨q, rfl, hrd, hnil, hX4⟩
      have HX5 := Lib.hid (HX3.out.trans (hX4.mono HX3.out.size))
      have HO2 := Lib.hid (own_below HO1.out hX4)
      have HRd := Lib.hid hrd
      have Hnl := Lib.hid hnil
      clear hhas hrd hnil hX4
      go_wp2_with (at_builtin; go_loud (refine wpList_append_C rfl (.tmp 44) (.tmp 47) rfl w2.heap.size _ out1 r _ rfl HO2.out q r.length rfl HRd.out Hnl.out (by omega) HX5.out.size ?_; intro v' w5 ho5 hg5; have HF := Lib.hid ho5; have HX6 := Lib.hid (HX5.out.grown hg5 HX5.out.size (fun j hj => (HO2.out.lt j hj).1)); clear ho5 hg5))
      go_roundw
      case rel => exact ⟨k + 1, by omega, by go_num, by rw [Hnx.out]; exact Lib.hid ⟨HF.out, HX6.out⟩⟩
      case measure => simp [intOf] <;> omega
    · obtain rfl : k = l.length := by omega
      rw [List.take_length] at hR
      obtain ⟨ho, hX⟩ := hR.out
      have HF := Lib.hid (own_base ho HX2.out.size)
      have HX5 := Lib.hid (HX2.out.trans (hX.mono HX2.out.size))
      clear ho hX hR
      go_wp2_with fail
      go_ret2
      exact ⟨_, rfl, by rw [Hread.out]; exact HF.out, HX5.out⟩
end Go.Proofs.Ytelaiafpfaohfaa
