/-
  CmdBack's plain law: what was put is parsed as it was; what is parsed, put again, is the same bytes.
-/
import Derived.Test.YtciojggkcmdjiaaDoorLawN15
namespace Go.Proofs.YtciojggkcmdjiaaDoor
open Go.RowKit
set_option linter.unusedSimpArgs false
set_option linter.unusedVariables false

/-! There -/
theorem rdUpto_back {n most : Nat} (hn : n < 18446744073709551616) (hm : n ≤ most) (rest : List UInt8) : rdUpto ⟨Lib.uvarint n ++ rest, 0⟩ most = (n, ⟨rest, 0⟩) := by
  unfold rdUpto
  rw [rdNum_back hn rest]
  rw [if_neg (by simp only; omega)]
theorem unitBytes_eq (u : Ut) : unitBytes u = Lib.uvarint u.kind.toNat ++ (Lib.uvarint u.pos.toNat ++ (Lib.uvarint u.chr.toNat ++ (Lib.uvarint u.cl.toNat ++ Lib.uvarint u.rq.toNat))) := by
  simp [unitBytes, numsBytes, unitNums, List.flatMap_cons]
theorem rdUnit_back {u : Ut} (h : OkU u) (rest : List UInt8) : rdUnit ⟨unitBytes u ++ rest, 0⟩ = (u, ⟨rest, 0⟩) := by
  have h0 := h.kind
  have h1 := h.pos
  have h2 := h.chr
  have h3 := h.cl
  have h4 := h.rq
  rw [unitBytes_eq]
  unfold rdUnit
  simp only [List.append_assoc]
  rw [rdNum_back (by omega)]
  simp only
  rw [if_neg (by omega), rdUpto_back (by omega) (by omega)]
  simp only
  rw [rdUpto_back (by omega) (by omega)]
  simp only
  rw [rdUpto_back (by omega) (by omega)]
  simp only
  rw [rdNum_back (by omega)]
  obtain ⟨k, p, c, l, r⟩ := u
  simp only at h0 h1 h2 h3 h4 ⊢
  have e0 : wrap64 ((k.toNat : Nat) : Int) = k := by unfold wrap64; omega
  rw [e0, Int.toNat_of_nonneg h1.1, Int.toNat_of_nonneg h2.1, Int.toNat_of_nonneg h3.1, Int.toNat_of_nonneg h4.1]
theorem rdUnits_back : ∀ (us : List Ut) (acc : List Ut) (rest : List UInt8), (∀ u ∈ us, OkU u) → rdUnits us.length ⟨us.flatMap unitBytes ++ rest, 0⟩ acc = (acc ++ us, ⟨rest, 0⟩)
  | [], acc, rest, _ => by simp [rdUnits]
  | u :: us, acc, rest, h => by
    rw [List.length_cons]
    unfold rdUnits
    rw [List.flatMap_cons, List.append_assoc, rdUnit_back (h u List.mem_cons_self)]
    simp only [if_true]
    rw [rdUnits_back us (acc ++ [u]) rest (fun v hv => h v (List.mem_cons_of_mem _ hv))]
    simp
theorem rdRow_back {us : List Ut} (h : ∀ u ∈ us, OkU u) (hl : us.length ≤ 256) (rest : List UInt8) : rdRow ⟨rowBytes us ++ rest, 0⟩ 256 = (us, ⟨rest, 0⟩) := by
  unfold rdRow rowBytes
  rw [List.append_assoc, rdCount_back (by omega) (by omega)]
  simp only
  rw [rdUnits_back us [] rest h]
  rfl
theorem rdUs_back {us : List Ut} (h : ∀ u ∈ us, OkU u) (hr : rowB us = true) (hl : us.length ≤ 256) (rest : List UInt8) : rdUs ⟨rowBytes us ++ rest, 0⟩ = (us, ⟨rest, 0⟩) := by
  unfold rdUs
  rw [rdRow_back h hl rest]
  simp only [hr, if_true]
theorem parse_put {m : Cm} (hm : mayCm m = true) (hw : WfC m) : pCmd (cmBytes m) = (m, 0) := by
  obtain ⟨⟨k1, k2⟩, k3, k4, k5, ⟨k6, k7⟩, k8, k9, k10⟩ := mayCm_ok hm hw
  have hd := hw.doc
  have hr := hw.rev
  obtain ⟨kind, doc, name, rev, pos, us⟩ := m
  simp only at k1 k2 k3 k4 k5 k6 k7 k8 k9 k10 hd hr
  have e0 : rdNum ⟨cmBytes ⟨kind, doc, name, rev, pos, us⟩, 0⟩ = (kind.toNat, ⟨Lib.uvarint doc.toNat ++ (lenBytes name ++ (Lib.uvarint rev.toNat ++ (Lib.uvarint pos.toNat ++ rowBytes us))), 0⟩) := by
    unfold cmBytes
    simp only [List.append_assoc]
    exact rdNum_back (by omega) _
  have e1 : psKind (cmBytes ⟨kind, doc, name, rev, pos, us⟩) = ⟨Lib.uvarint doc.toNat ++ (lenBytes name ++ (Lib.uvarint rev.toNat ++ (Lib.uvarint pos.toNat ++ rowBytes us))), 0⟩ := by
    unfold psKind
    rw [e0]
    exact if_neg (by simp only; omega)
  have e2 : psDoc (cmBytes ⟨kind, doc, name, rev, pos, us⟩) = (doc.toNat, ⟨lenBytes name ++ (Lib.uvarint rev.toNat ++ (Lib.uvarint pos.toNat ++ rowBytes us)), 0⟩) := by
    unfold psDoc
    rw [e1]
    exact rdUpto_back (by omega) (by omega) _
  have e3 : psName (cmBytes ⟨kind, doc, name, rev, pos, us⟩) = (name, ⟨Lib.uvarint rev.toNat ++ (Lib.uvarint pos.toNat ++ rowBytes us), 0⟩) := by
    unfold psName
    rw [e2]
    exact rdBytes_back (by omega) (by omega) _
  have e4 : psDec (cmBytes ⟨kind, doc, name, rev, pos, us⟩) = ⟨Lib.uvarint rev.toNat ++ (Lib.uvarint pos.toNat ++ rowBytes us), 0⟩ := by
    unfold psDec
    rw [e3]
    exact if_pos k4
  have e5 : psRev (cmBytes ⟨kind, doc, name, rev, pos, us⟩) = (rev.toNat, ⟨Lib.uvarint pos.toNat ++ rowBytes us, 0⟩) := by
    unfold psRev
    rw [e4]
    exact rdUpto_back (by omega) (by omega) _
  have e6 : psPos (cmBytes ⟨kind, doc, name, rev, pos, us⟩) = (pos.toNat, ⟨rowBytes us ++ [], 0⟩) := by
    unfold psPos
    rw [e5, List.append_nil]
    exact rdUpto_back (by omega) (by omega) _
  have e7 : psUs (cmBytes ⟨kind, doc, name, rev, pos, us⟩) = (us, ⟨[], 0⟩) := by
    unfold psUs
    rw [e6]
    exact rdUs_back k10 k8 k9 []
  have e8 : psEnd (cmBytes ⟨kind, doc, name, rev, pos, us⟩) = ⟨[], 0⟩ := by
    unfold psEnd
    rw [e7]
    rfl
  have hcm : psCm (cmBytes ⟨kind, doc, name, rev, pos, us⟩) = ⟨kind, doc, name, rev, pos, us⟩ := by
    unfold psCm
    rw [e0, e2, e3, e5, e6, e7]
    rw [Cm.mk.injEq]
    refine ⟨?_, ?_, rfl, ?_, ?_, rfl⟩
    · show ((min kind.toNat 9 : Nat) : Int) = kind
      omega
    · exact Int.toNat_of_nonneg hd.1
    · exact Int.toNat_of_nonneg hr
    · exact Int.toNat_of_nonneg k6
  unfold pCmd
  rw [if_pos (show (psEnd (cmBytes ⟨kind, doc, name, rev, pos, us⟩)).e = 0 by rw [e8]), hcm]
/-! And back -/
theorem rdNum_was {s : RS} (h : (rdNum s).2.e = 0) : s.e = 0 := by
  rcases Decidable.em (s.e = 0) with h0 | h0
  · exact h0
  · rw [rdNum_err h0] at h
    exact h
theorem rdUpto_was {s : RS} {m : Nat} (h : (rdUpto s m).2.e = 0) : (rdNum s).2.e = 0 ∧ rdUpto s m = rdNum s ∧ (rdNum s).1 ≤ m := by
  unfold rdUpto at h ⊢
  split at h
  · exact absurd h (rdFail_e (by decide))
  · rename_i hc
    exact ⟨h, if_neg hc, by omega⟩
theorem rdUpto_same {s : RS} {m : Nat} (h : (rdUpto s m).2.e = 0) : s.e = 0 ∧ Lib.uvarint (rdUpto s m).1 ++ (rdUpto s m).2.b = s.b ∧ (rdUpto s m).1 ≤ m := by
  obtain ⟨h1, h2, h3⟩ := rdUpto_was h
  rw [h2]
  exact ⟨rdNum_was h1, rdNum_same (rdNum_was h1) h1, h3⟩
theorem rdBytes_was {s : RS} {m : Int} (h : (rdBytes s m).2.e = 0) : s.e = 0 := by
  rcases Decidable.em (s.e = 0) with h0 | h0
  · exact h0
  · rw [rdBytes_err h0] at h
    exact h
structure NumU (u : Ut) : Prop where
  kind : 0 ≤ u.kind
  pos : 0 ≤ u.pos
  chr : 0 ≤ u.chr
  wf : WfU u
theorem rdUnit_def {s s1 s2 s3 s4 s5 s6 : RS} {k p c l q : Nat} (h0 : rdNum s = (k, s1)) (h1 : (if 2 < k then rdFail s1 5 else s1) = s2) (h2 : rdUpto s2 2147483648 = (p, s3)) (h3 : rdUpto s3 1114111 = (c, s4)) (h4 : rdUpto s4 4294967295 = (l, s5)) (h5 : rdNum s5 = (q, s6)) : rdUnit s = (⟨wrap64 (k : Int), p, c, l, q⟩, s6) := by
  unfold rdUnit
  simp only [h0, h1, h2, h3, h4, h5]
theorem upto_eq {s s' : RS} {m n : Nat} (h : rdUpto s m = (n, s')) (he : s'.e = 0) : s.e = 0 ∧ Lib.uvarint n ++ s'.b = s.b ∧ n ≤ m := by
  have := rdUpto_same (s := s) (m := m) (by rw [h]; exact he)
  rw [h] at this
  exact this
theorem num_eq {s s' : RS} {n : Nat} (h : rdNum s = (n, s')) (he : s'.e = 0) : s.e = 0 ∧ Lib.uvarint n ++ s'.b = s.b ∧ n < 18446744073709551616 := by
  have h1 : (rdNum s).2.e = 0 := by rw [h]; exact he
  have h2 := rdNum_same (rdNum_was h1) h1
  have h3 := rdNum_lt s
  rw [h] at h2 h3
  exact ⟨rdNum_was h1, h2, h3⟩
theorem rdUnit_same {s : RS} (h : (rdUnit s).2.e = 0) : s.e = 0 ∧ unitBytes (rdUnit s).1 ++ (rdUnit s).2.b = s.b ∧ NumU (rdUnit s).1 := by
  obtain ⟨k, s1, h0⟩ := pr_ (rdNum s)
  obtain ⟨s2, h1⟩ : ∃ x, (if 2 < k then rdFail s1 5 else s1) = x := ⟨_, rfl⟩
  obtain ⟨p, s3, h2⟩ := pr_ (rdUpto s2 2147483648)
  obtain ⟨c, s4, h3⟩ := pr_ (rdUpto s3 1114111)
  obtain ⟨l, s5, h4⟩ := pr_ (rdUpto s4 4294967295)
  obtain ⟨q, s6, h5⟩ := pr_ (rdNum s5)
  rw [rdUnit_def h0 h1 h2 h3 h4 h5] at h ⊢
  have h' : s6.e = 0 := h
  obtain ⟨e5, g5, l5⟩ := num_eq h5 h'
  obtain ⟨e4, g4, l4⟩ := upto_eq h4 e5
  obtain ⟨e3, g3, l3⟩ := upto_eq h3 e4
  obtain ⟨e2, g2, l2⟩ := upto_eq h2 e3
  have hk : ¬ 2 < k := fun hc => by
    rw [if_pos hc] at h1
    rw [← h1] at e2
    exact rdFail_e (by decide) e2
  rw [if_neg hk] at h1
  subst h1
  obtain ⟨e1, g1, -⟩ := num_eq h0 e2
  have w0 : wrap64 (k : Int) = k := by unfold wrap64; omega
  rw [w0]
  refine ⟨e1, ?_, ⟨Int.natCast_nonneg _, Int.natCast_nonneg _, Int.natCast_nonneg _, ⟨⟨Int.natCast_nonneg _, ?_⟩, ⟨Int.natCast_nonneg _, ?_⟩⟩⟩⟩
  · rw [unitBytes_eq]
    show (Lib.uvarint ((k : Int).toNat) ++ (Lib.uvarint ((p : Int).toNat) ++ (Lib.uvarint ((c : Int).toNat) ++ (Lib.uvarint ((l : Int).toNat) ++ Lib.uvarint ((q : Int).toNat))))) ++ s6.b = s.b
    simp only [Int.toNat_natCast, List.append_assoc]
    rw [g5, g4, g3, g2, g1]
  · show (l : Int) ≤ 4294967295
    omega
  · show (q : Int) ≤ 18446744073709551615
    omega
theorem rdUnits_same : ∀ (n : Nat) (s : RS) (acc : List Ut), (rdUnits n s acc).2.e = 0 → ∃ us, us.length = n ∧ (rdUnits n s acc).1 = acc ++ us ∧ us.flatMap unitBytes ++ (rdUnits n s acc).2.b = s.b ∧ (0 < n → s.e = 0) ∧ ∀ u ∈ us, NumU u
  | 0, s, acc, h => ⟨[], rfl, by simp [rdUnits], by simp [rdUnits], fun h => absurd h (by omega), fun u hu => by cases hu⟩
  | n + 1, s, acc, h => by
    unfold rdUnits at h ⊢
    split at h
    · rename_i hc
      rw [if_pos hc]
      obtain ⟨e0, g0, n0⟩ := rdUnit_same hc
      obtain ⟨us, hl, h1, h2, -, h4⟩ := rdUnits_same n (rdUnit s).2 (acc ++ [(rdUnit s).1]) h
      refine ⟨(rdUnit s).1 :: us, by simp [hl], by rw [h1]; simp, ?_, fun _ => e0, fun u hu => ?_⟩
      · rw [List.flatMap_cons, List.append_assoc, h2, g0]
      · rcases List.mem_cons.1 hu with rfl | hu
        · exact n0
        · exact h4 u hu
    · rename_i hc
      exact absurd h hc
theorem rdRow_same {s : RS} (h : (rdRow s 256).2.e = 0) : s.e = 0 ∧ rowBytes (rdRow s 256).1 ++ (rdRow s 256).2.b = s.b ∧ ∀ u ∈ (rdRow s 256).1, NumU u := by
  unfold rdRow at h ⊢
  obtain ⟨us, hl, h1, h2, h3, h4⟩ := rdUnits_same _ _ _ h
  have hc : (rdCount s 256).2.e = 0 := by
    rcases Nat.eq_zero_or_pos (rdCount s 256).1 with hz | hz
    · rw [hz] at h
      exact h
    · exact h3 hz
  unfold rdCount at hc
  obtain ⟨e0, g0, -⟩ := rdUpto_same hc
  refine ⟨e0, ?_, ?_⟩
  · rw [h1]
    unfold rowBytes
    simp only [List.nil_append]
    rw [List.append_assoc, h2, hl]
    exact g0
  · rw [h1]
    exact h4
theorem rdUs_same {s : RS} (h : (rdUs s).2.e = 0) : s.e = 0 ∧ rowBytes (rdUs s).1 ++ (rdUs s).2.b = s.b ∧ rowB (rdUs s).1 = true ∧ ∀ u ∈ (rdUs s).1, WfU u := by
  unfold rdUs at h ⊢
  split at h
  · rename_i hc
    rw [if_pos hc]
    obtain ⟨h1, h2, h3⟩ := rdRow_same h
    exact ⟨h1, h2, hc, fun u hu => (h3 u hu).wf⟩
  · exact absurd h (rdFail_e (by decide))
theorem rdEnd_same {s : RS} (h : (rdEnd s).e = 0) : s.e = 0 ∧ s.b = [] := by
  unfold rdEnd at h
  split at h
  · exact absurd h (rdFail_e (by decide))
  · rename_i hc
    refine ⟨h, ?_⟩
    unfold rdLeft at hc
    rw [if_pos h] at hc
    exact List.eq_nil_of_length_eq_zero (by omega)
theorem bytes_eq {s s' : RS} {m : Int} {l : List UInt8} (h : rdBytes s m = (l, s')) (he : s'.e = 0) : s.e = 0 ∧ lenBytes l ++ s'.b = s.b ∧ l.length ≤ m.toNat := by
  have h1 : (rdBytes s m).2.e = 0 := by rw [h]; exact he
  have h2 := rdBytes_same (rdBytes_was h1) h1
  have h3 := rdBytes_le s m
  rw [h] at h2 h3
  exact ⟨rdBytes_was h1, h2, h3⟩
theorem us_eq {s s' : RS} {us : List Ut} (h : rdUs s = (us, s')) (he : s'.e = 0) : s.e = 0 ∧ rowBytes us ++ s'.b = s.b ∧ rowB us = true ∧ ∀ u ∈ us, WfU u := by
  have := rdUs_same (s := s) (by rw [h]; exact he)
  rw [h] at this
  exact this
/-- What is parsed may be; put again, it is the same bytes. -/
theorem put_parse {b : List UInt8} (h : (psEnd b).e = 0) : mayCm (psCm b) = true ∧ WfC (psCm b) ∧ cmBytes (psCm b) = b := by
  obtain ⟨k, s1, hk⟩ := pr_ (rdNum ⟨b, 0⟩)
  obtain ⟨s2, hs2⟩ : ∃ x, psKind b = x := ⟨_, rfl⟩
  have Hs2 : (if k < 1 ∨ 9 < k then rdFail s1 5 else s1) = s2 := by have h := hs2; unfold psKind at h; rw [hk] at h; exact h
  obtain ⟨d, s3, hd⟩ := pr_ (psDoc b)
  have Hd : rdUpto s2 4294967295 = (d, s3) := by have h := hd; unfold psDoc at h; rw [hs2] at h; exact h
  obtain ⟨nm, s4, hnm⟩ := pr_ (psName b)
  have Hnm : rdBytes s3 64 = (nm, s4) := by have h := hnm; unfold psName at h; rw [hd] at h; exact h
  obtain ⟨s5, hs5⟩ : ∃ x, psDec b = x := ⟨_, rfl⟩
  have Hs5 : (if decB nm = 0 then s4 else rdFail s4 (decB nm)) = s5 := by rw [← hs5]; unfold psDec; rw [hnm]
  obtain ⟨rv, s6, hrv⟩ := pr_ (psRev b)
  have Hrv : rdUpto s5 1099511627776 = (rv, s6) := by have h := hrv; unfold psRev at h; rw [hs5] at h; exact h
  obtain ⟨ps, s7, hps⟩ := pr_ (psPos b)
  have Hps : rdUpto s6 2147483648 = (ps, s7) := by have h := hps; unfold psPos at h; rw [hrv] at h; exact h
  obtain ⟨us, s8, hus⟩ := pr_ (psUs b)
  have Hus : rdUs s7 = (us, s8) := by have h := hus; unfold psUs at h; rw [hps] at h; exact h
  have H9 : (rdEnd s8).e = 0 := by
    have h' := h
    unfold psEnd at h'
    rw [hus] at h'
    exact h'
  have hcm : psCm b = ⟨((min k 9 : Nat) : Int), (d : Nat), nm, (rv : Nat), (ps : Nat), us⟩ := by
    unfold psCm
    rw [hk, hd, hnm, hrv, hps, hus]
  rw [hcm]
  clear hs2 hd hnm hs5 hrv hps hus h hcm
  obtain ⟨e8, g8⟩ := rdEnd_same H9
  obtain ⟨e7, g7, r7, w7⟩ := us_eq Hus e8
  obtain ⟨e6, g6, l6⟩ := upto_eq Hps e7
  obtain ⟨e5, g5, l5⟩ := upto_eq Hrv e6
  have hd : decB nm = 0 := by
    rcases Decidable.em (decB nm = 0) with hh | hh
    · exact hh
    · rw [if_neg hh] at Hs5
      rw [← Hs5] at e5
      exact absurd e5 (rdFail_e hh)
  rw [if_pos hd] at Hs5
  subst Hs5
  obtain ⟨e4, g4, l4⟩ := bytes_eq Hnm e5
  obtain ⟨e3, g3, l3⟩ := upto_eq Hd e4
  have hkk : ¬ (k < 1 ∨ 9 < k) := fun hc => by
    rw [if_pos hc] at Hs2
    rw [← Hs2] at e3
    exact rdFail_e (by decide) e3
  rw [if_neg hkk] at Hs2
  subst Hs2
  obtain ⟨-, g2, -⟩ := num_eq hk e3
  have hmin : min k 9 = k := by omega
  have hnl : nm.length ≤ 64 := l4
  have hfar : farB ((ps : Nat) : Int) = true := by
    unfold farB
    simp only [Bool.and_eq_true, decide_eq_true_eq]
    omega
  rw [hmin]
  refine ⟨?_, ⟨⟨Int.natCast_nonneg _, ?_⟩, Int.natCast_nonneg _, w7⟩, ?_⟩
  · unfold mayCm
    show (decide (1 ≤ (k : Int)) && (decide ((k : Int) ≤ 9) && (decide (nm.length ≤ 64) && (decide (decB nm = 0) && (decide ((rv : Int) ≤ 1099511627776) && (farB ((ps : Nat) : Int) && rowB us)))))) = true
    rw [decide_eq_true (show 1 ≤ (k : Int) by omega), decide_eq_true (show (k : Int) ≤ 9 by omega), decide_eq_true hnl, decide_eq_true hd, decide_eq_true (show (rv : Int) ≤ 1099511627776 by omega), hfar, r7]
    rfl
  · show (d : Int) ≤ 4294967295
    omega
  · unfold cmBytes
    show Lib.uvarint ((k : Int).toNat) ++ Lib.uvarint ((d : Int).toNat) ++ lenBytes nm ++ Lib.uvarint ((rv : Int).toNat) ++ Lib.uvarint ((ps : Int).toNat) ++ rowBytes us = b
    simp only [Int.toNat_natCast, List.append_assoc]
    rw [g8, List.append_nil] at g7
    rw [g7, g6, g5, g4, g3]
    exact g2
end Go.Proofs.YtciojggkcmdjiaaDoor
