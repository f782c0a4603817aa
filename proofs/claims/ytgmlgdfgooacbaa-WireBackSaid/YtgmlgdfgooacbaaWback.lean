/-
  WireBack: the walk. Condition: the arguments can be read; the bytes behind are below 2^46. (Printed by wip/gen_wbackw.py.)
-/
import Derived.Test.YtgmlgdfgooacbaaBackLaw
import Derived.Test.YtgmlgdfgooacbaaAsk
namespace Go.Proofs.Ytgmlgdfgooacbaa
open Go.RowKit
set_option linter.unusedSimpArgs false
set_option linter.unusedVariables false

/-- What the walk keeps: the things, the record, the bytes behind, a reader. -/
structure Bk (w : World) (S U : Nat → Prop) (hi : Nat) (vt : Value) (ts : List Thing) (vb : Value) (bs : List UInt8) (ve : Value) (be : List UInt8) (lo a : Nat) (s : RS) (W : World) : Prop where
  bel : Below w.heap.size w W
  ts : ThingsRd W S vt ts
  tb : CmdRd W (fun k => w.heap.size ≤ k ∧ k < hi) vb bs
  be : CmdRd W U ve be
  rd : RdAt W lo a s
  la : lo ≤ a
  hil : hi ≤ lo
  whi : w.heap.size ≤ hi
section
variable {w W W' : World} {S U : Nat → Prop} {hi lo a : Nat} {vt vb ve : Value} {ts : List Thing} {bs be : List UInt8} {s s' : RS}
theorem Bk.below (h : Bk w S U hi vt ts vb bs ve be lo a s W) (hX : Below W.heap.size W W') : Bk w S U hi vt ts vb bs ve be lo a s W' :=
  ⟨h.bel.trans (hX.mono h.bel.size), h.ts.below hX, h.tb.below hX, h.be.below hX, h.rd.below hX, h.la, h.hil, h.whi⟩
theorem Bk.read (h : Bk w S U hi vt ts vb bs ve be lo a s W) (hX : Ext (fun k => k = a) W W') (hr : RdAt W' lo a s') (hS : ∀ k, S k → k < w.heap.size) (hU : ∀ k, U k → k < w.heap.size) : Bk w S U hi vt ts vb bs ve be lo a s' W' := by
  have h1 := h.la
  have h2 := h.hil
  have h3 := h.whi
  exact ⟨Ext.from h.bel hX (fun g e => by have : g = a := e; omega), h.ts.ext hX (fun g x e => by have := hS g x; have : g = a := e; omega), Rd.ext h.tb hX (fun g x e => by have := x.2; have : g = a := e; omega) (by decide),
    Rd.ext h.be hX (fun g x e => by have := hU g x; have : g = a := e; omega) (by decide), hr, h.la, h.hil, h.whi⟩
end

set_option maxHeartbeats 12000000 in
set_option maxRecDepth 100000 in
theorem back_walk {w : World} {S U : Nat → Prop} {v ve : Value} {ts0 : List Thing} {be : List UInt8} {cut : Nat} (h : ThingsRd w S v ts0) (hok : ThingsOk ts0) (hS : ∀ k, S k → k < w.heap.size) (he : CmdRd w U ve be) (hnil : NilOk ve) (hU : ∀ k, U k → k < w.heap.size)
    (hbe : be.length ≤ 140737488351232) (hcut : cut ≤ 65535) :
    Calls Try.prog 7 #[v, .int .u16 cut, ve] w fun x w' => x = .returned (.bool true) ∧ Below w.heap.size w w' := by
  obtain ⟨cs, hr, -⟩ := id h
  have hlen := Rd.le hr
  unfold maxLen at hlen
  obtain ⟨p, c, rfl⟩ := Rd.slice hr
  obtain ⟨q, d, rfl⟩ := he.slice
  have hcb : ts0.length ≤ c := by obtain ⟨_, _, _, h, h1, _⟩ := hr; injection h with _ _ h; omega
  obtain ⟨ts, hts, ht60, htl⟩ : ∃ ts, ts0.take 60 = ts ∧ ts.length ≤ 60 ∧ ts.length ≤ ts0.length := ⟨_, rfl, by rw [List.length_take]; omega, by rw [List.length_take]; omega⟩
  have hm : (if (60 : Int) < (ts0.length : Int) then (60 : Int) else (ts0.length : Int)) = (ts.length : Int) := by rw [← hts, List.length_take]; split <;> omega
  have hf := h.front htl
  rw [show ts0.take ts.length = ts from by rw [← hts, List.length_take, ← List.take_take, List.take_length]] at hf
  have hok1 : ThingsOk ts := by rw [← hts]; exact hok.take 60
  have HT := Lib.hid hf
  have Hok := Lib.hid hok1
  have HE := Lib.hid he
  have HN := Lib.hid hnil
  have hwl := wrote_len ts hok1
  clear h hok hr he hnil hf hok1 hts cs
  obtain ⟨bs, hbs⟩ : ∃ bs, wrote ts = bs := ⟨_, rfl⟩
  rw [hbs] at hwl
  have Hbs := Lib.hid hbs
  clear hbs
  go_enter Try.func7, Try.ntmps7
  go_wp2_with fail
  clear hm
  refine (written_any HT.out Hok.out hS ht60).mono ?_
  rintro x w1 ⟨p1, c1, rfl, ho, hX1⟩
  rw [Hbs.out] at ho ⊢
  have HO1 := Lib.hid (OwnIn.of ho)
  have HX1 := Lib.hid hX1
  have hk := (Below.refl w1.heap.size w1).alloc (Nat.le_refl _) (.cells #[] 5)
  have HR1 := Lib.hid (HO1.out.rd.below hk)
  have HT1 := Lib.hid ((HT.out.below hX1).below hk)
  have HE1 := Lib.hid ((HE.out.below hX1).below hk)
  have hbl : ([] : List UInt8).length + bs.length ≤ 200000000000000 := by simp; omega
  clear ho hX1 hk HT HE
  go_wp2_with (at_builtin; refine wpList_append_rd rfl _ _ rfl w1.heap.size _ [] bs (fun k => w.heap.size ≤ k ∧ k < w1.heap.size) rfl (World.ownsRow_made w1 #[] 0 (Nat.le_refl _) (Nat.zero_le _) rfl) p1 c1 rfl HR1.out (NilOk.own HO1.out.1) hbl (by rw [World.size_alloc]; omega) ?_)
  intro v2 w2 ho2 hg2
  have ho2' : CmdOwn w2 w1.heap.size v2 bs := by first | exact ho2 | (rw [List.nil_append] at ho2; exact ho2)
  obtain ⟨p2, c2, hv2⟩ := ho2'.slice
  subst hv2
  have hX2 : Below w1.heap.size w1 w2 := ((Below.refl w1.heap.size w1).alloc (Nat.le_refl _) _).grown hg2 (by simp) (by intro k hk; simp [Value.ownBlock] at hk; omega)
  have HO2 := Lib.hid ho2'
  have HX2 := Lib.hid (HX1.out.trans (hX2.mono HX1.out.size))
  have hz2 := hX2.size
  have HR2 := Lib.hid (HO1.out.rd.below hX2)
  have hkk : ∀ k, k < w1.heap.size → w2.heap[k]? = w1.heap[k]? := fun k hk => hX2.block k hk
  have HTa := Lib.hid (show ThingsRd w2 S (.slice p ts.length c) ts from by
    obtain ⟨cs, hr, hE⟩ := HT1.out
    have hX3 : Ext (fun k => w1.heap.size ≤ k) (w1.alloc (.cells #[] 5)) w2 := ⟨hg2.os, hg2.tape, hg2.output, hg2.size, fun k hk hn => by
      have : k < w1.heap.size := by omega
      exact (hX2.block k this).trans (Below.heap_alloc w1 _ k this).symm⟩
    exact ThingsRd.ext ⟨cs, hr, hE⟩ hX3 (fun k hk => by have := hS k hk; have := HX1.out.size; omega))
  have HEa := Lib.hid (show CmdRd w2 U (.slice q be.length d) be from by
    have hX3 : Ext (fun k => w1.heap.size ≤ k) (w1.alloc (.cells #[] 5)) w2 := ⟨hg2.os, hg2.tape, hg2.output, hg2.size, fun k hk hn => by
      have : k < w1.heap.size := by omega
      exact (hX2.block k this).trans (Below.heap_alloc w1 _ k this).symm⟩
    exact Rd.ext HE1.out hX3 (fun k hk => by have := hU k hk; have := HX1.out.size; omega) (by decide))
  have hbl2 : bs.length + be.length ≤ 200000000000000 := by omega
  have hz1w := HX1.out.size
  clear hX2 ho2 ho2' hg2 hkk HR1 HT1 HE1 hbl
  go_wp2_with (at_builtin; refine wpList_append_rd rfl _ _ rfl w1.heap.size _ bs be U rfl HO2.out q d rfl HEa.out HN.out hbl2 hz2 ?_)
  intro v3 w3 ho3 hg3
  obtain ⟨be2, hbe2⟩ : ∃ l, bs ++ be = l := ⟨_, rfl⟩
  rw [hbe2] at ho3
  have hl2 : be2.length ≤ 200000000000000 := by rw [← hbe2, List.length_append]; omega
  have Hbe2 := Lib.hid hbe2
  obtain ⟨p3, c3, hv3⟩ := ho3.slice
  subst hv3
  have hX3 : Ext (fun k => w1.heap.size ≤ k) w2 w3 := ⟨hg3.os, hg3.tape, hg3.output, hg3.size, fun k hk hn => hg3.block k hk (fun e => hn (HO2.out.lt k e.symm).1)⟩
  have HX3 := Lib.hid (Ext.from HX2.out hX3 (fun k hk => by omega))
  have HT3 := Lib.hid (HTa.out.ext hX3 (fun k hk => by have := hS k hk; omega))
  have HE3 := Lib.hid (Rd.ext HEa.out hX3 (fun k hk => by have := hU k hk; omega) (by decide))
  have HR3 := Lib.hid (show CmdRd w3 (fun k => w.heap.size ≤ k ∧ k < w1.heap.size) (.slice p1 bs.length c1) bs from Rd.ext HR2.out hX3 (fun k hk => by have := hk.2; omega) (by decide))
  have HO3 := Lib.hid ho3
  have hz3 := hX3.size
  clear ho3 hg3 hX3 hbe2 HTa HEa HR2 HO2 HX2
  go_wp2_with fail
  refine (rd_New HO3.out.rd hl2).mono ?_
  rintro x w4 ⟨a, rfl, hr, hla, hlt, hX⟩
  have HS := Lib.hid (show Bk w S U w1.heap.size (.slice p ts.length c) ts (.slice p1 bs.length c1) bs (.slice q be.length d) be w3.heap.size a ⟨be2, 0⟩ w4 from
    ⟨HX3.out.trans (hX.mono HX3.out.size), HT3.out.below hX, HR3.out.below hX, CmdRd.below HE3.out hX, hr, hla, by omega, hz1w⟩)
  clear hr hX HX3 HT3 HE3 HR3 HO3
  obtain ⟨lo, hlo⟩ : ∃ n, w3.heap.size = n := ⟨_, rfl⟩
  obtain ⟨hi, hhi⟩ : ∃ n, w1.heap.size = n := ⟨_, rfl⟩
  rw [hlo, hhi] at HS
  clear hlo hhi hla hlt hz3 hz2 hz1w HO1 HX1
  go_wp2_with fail
  go_loopw [29] (fun i wr => ∃ (k : Nat) (s : RS), k ≤ ts.length ∧ i = .int .i64 k ∧ s.e = 0 ∧ s.b = wrote (ts.drop k) ++ be ∧ s.b.length ≤ 200000000000000 ∧ Bk w S U hi (.slice p ts.length c) ts (.slice p1 bs.length c1) bs (.slice q be.length d) be lo a s wr) (fun i _ => ts.length - (intOf i).toNat)
  case atStart => exact ⟨0, ⟨be2, 0⟩, Nat.zero_le _, rfl, rfl, by rw [List.drop_zero, Hbs.out]; exact Hbe2.out.symm, hl2, HS.out⟩
  case round =>
    clear HS
    obtain ⟨k, s, hk, rfl, hse, hsb, hsl, hbk⟩ := hrel
    obtain ⟨sb, se⟩ := s
    obtain rfl : se = 0 := hse
    simp only at hsb hsl
    have HS := Lib.hid hbk
    have Hsb := Lib.hid hsb
    clear hbk hsb
    by_cases hlt : k < ts.length
    · have hok := Hok.out ts[k] (List.getElem_mem hlt)
      have hst : rdThing ⟨sb, 0⟩ ts[k] = (true, ⟨wrote (ts.drop (k + 1)) ++ be, 0⟩) := by
        rw [Hsb.out, wrote_drop ts k hlt, List.append_assoc]
        exact thing_back hok.1 _
      have hln : (wrote (ts.drop (k + 1)) ++ be).length ≤ 200000000000000 := by
        have h := Hsb.out
        rw [wrote_drop ts k hlt, List.append_assoc] at h
        rw [h, List.length_append] at hsl
        omega
      obtain ⟨bk, off, qb, db, he, e0, e1, e2, hq, hnil, hbd, hbd2⟩ := HS.out.ts.at_ hlt
      subst he
      unfold maxLen at hbd2
      generalize ts[k]'hlt = t at *
      obtain ⟨what, n, b0⟩ := t
      simp only at e0 e1 e2 hq hnil hbd hok
      have hb1 := (Below.refl wr.heap.size wr).alloc (Nat.le_refl _) (.cells #[.int .i64 what, .int .u64 n, .slice qb b0.length db] 28)
      have HS1 := Lib.hid (HS.out.below hb1)
      have HQ1 := Lib.hid (hq.below hb1)
      have Hst := Lib.hid hst
      have Hln := Lib.hid hln
      have K0 := Blk.new wr 28 #[.int .i64 what, .int .u64 n, .slice qb b0.length db]
      obtain ⟨m0, m1, m2, g0, g1, g2, hzt⟩ := K0.c3
      clear hb1 hq hnil hst hln K0 HS
      go_wp2_with fail
      refine (reads_any HS1.out.rd HS1.out.la hsl HQ1.out (fun h => by have := hS _ h; have := HS1.out.la; have := HS1.out.hil; have := HS1.out.whi; omega) hbd (by omega)).mono ?_
      rintro x w5 ⟨rfl, hr, hX⟩
      rw [Hst.out] at hr
      rw [Hst.out]
      have HS2 := Lib.hid (HS1.out.read hX hr hS hU)
      clear hr hX HS1 HQ1 m0 m1 m2 g0 g1 g2 hzt
      go_wp2_with fail
      refine (rd_Err HS2.out.rd).mono ?_
      rintro x w6 ⟨rfl, rfl⟩
      go_wp2_with fail
      go_roundw
      case rel => exact ⟨k + 1, _, by omega, by go_num, rfl, rfl, Hln.out, HS2.out⟩
      case measure => simp [intOf] <;> omega
    · obtain rfl : k = ts.length := by omega
      have hsb : sb = be := by have h := Hsb.out; rw [List.drop_length] at h; exact h
      subst hsb
      clear Hsb hlt hk
      go_wp2_with fail
      refine (rd_Left HS.out.rd).mono ?_
      rintro x w5 ⟨rfl, rfl⟩
      rw [show ((rdLeft ⟨sb, 0⟩ : Nat) : Int) = (sb.length : Int) from rfl]
      by_cases hb0 : sb.length = 0
      · have hend : rdEnd ⟨sb, 0⟩ = ⟨sb, 0⟩ := by unfold rdEnd; rw [if_neg]; show ¬ 0 < sb.length; omega
        have Hend := Lib.hid hend
        clear hend
        rw [hb0]
        go_wp2_with fail
        refine (rd_End HS.out.rd HS.out.la).mono ?_
        rintro x w6 ⟨rfl, hr, hX⟩
        rw [Hend.out] at hr
        rw [Hend.out]
        have HS2 := Lib.hid (HS.out.read hX hr hS hU)
        clear hr hX HS Hend
        by_cases hbz : bs.length = 0
        · have tz : ((bs.length : Int) == 0) = true := by rw [beq_iff_eq]; omega
          have tz' : (bs.length == 0) = true := by rw [beq_iff_eq]; omega
          go_wp2_with fail
          refine (awake_true).mono ?_
          rintro x w8 ⟨rfl, hX⟩
          have HS3 := Lib.hid (HS2.out.below hX)
          clear hX HS2
          go_wp2_with fail
          go_ret
          exact ⟨rfl, HS3.out.bel⟩
        · have tz : ((bs.length : Int) == 0) = false := by rw [beq_eq_false_iff_ne]; omega
          have tz' : (bs.length == 0) = false := by rw [beq_eq_false_iff_ne]; omega
          obtain ⟨j, hj, hjl⟩ : ∃ j : Nat, (cut : Int) % (bs.length : Int) = (j : Int) ∧ j < bs.length := ⟨cut % bs.length, by omega, Nat.mod_lt _ (by omega)⟩
          have hbp : 1 ≤ (bs.length : Int) := by omega
          have htb := HS2.out.tb
          have hcc : bs.length ≤ c1 := by obtain ⟨_, _, _, h, h1, _⟩ := htb; injection h with _ _ h; omega
          have hcc2 : c1 ≤ maxLen := by obtain ⟨_, _, _, h, _, h1, _⟩ := htb; injection h with _ _ h; omega
          unfold maxLen at hcc2
          have HF := Lib.hid (htb.front (Nat.le_of_lt hjl))
          have hjc : j ≤ c1 := by omega
          clear hbz htb
          go_wp2_with fail
          clear hj
          refine (rd_New HF.out (by rw [List.length_take]; omega)).mono ?_
          rintro x w8 ⟨a2, rfl, hr, hla2, hlt2, hX⟩
          have hll := HS2.out.rd.lt
          have HB := Lib.hid (show Bk w S U hi (.slice p ts.length c) ts (.slice p1 bs.length c1) bs (.slice q sb.length d) sb w6.heap.size a2 ⟨bs.take j, 0⟩ w8 from
            ⟨HS2.out.bel.trans (hX.mono HS2.out.bel.size), HS2.out.ts.below hX, HS2.out.tb.below hX, CmdRd.below HS2.out.be hX, hr, hla2, by have := HS2.out.la; have := HS2.out.hil; omega, HS2.out.whi⟩)
          obtain ⟨lo2, hlo2⟩ : ∃ n, w6.heap.size = n := ⟨_, rfl⟩
          rw [hlo2] at HB
          clear hlo2 hr hX hla2 hlt2 hll HS2 HF
          go_wp2_with fail
          go_loopw [81] (fun i wr => ∃ (k : Nat) (s : RS) (j2 : Nat), k ≤ ts.length ∧ i = .int .i64 k ∧ s.e = 0 ∧ s.b = (wrote (ts.drop k)).take j2 ∧ j2 < (wrote (ts.drop k)).length ∧ (wrote (ts.drop k)).length ≤ 18600 ∧ Bk w S U hi (.slice p ts.length c) ts (.slice p1 bs.length c1) bs (.slice q sb.length d) sb lo2 a2 s wr) (fun i _ => ts.length - (intOf i).toNat)
          case atStart => exact ⟨0, ⟨bs.take j, 0⟩, j, Nat.zero_le _, rfl, rfl, by rw [List.drop_zero, Hbs.out], by rw [List.drop_zero, Hbs.out]; exact hjl, by rw [List.drop_zero, Hbs.out]; omega, HB.out⟩
          case round =>
            clear HB
            obtain ⟨k, s, j2, hk, rfl, hse, hsb2, hj2, hw18, hbk⟩ := hrel
            obtain ⟨tb, se⟩ := s
            obtain rfl : se = 0 := hse
            simp only at hsb2
            have HS := Lib.hid hbk
            have Hj2 := Lib.hid hj2
            have Hsb2 := Lib.hid hsb2
            have H18 := Lib.hid hw18
            have htl2 : tb.length ≤ 200000000000000 := by rw [hsb2, List.length_take]; omega
            clear hbk hj2 hsb2 hw18
            by_cases hlt : k < ts.length
            · have hok := Hok.out ts[k] (List.getElem_mem hlt)
              obtain ⟨okv, s', hst⟩ : ∃ okv s', rdThing ⟨tb, 0⟩ ts[k] = (okv, s') := ⟨_, _, rfl⟩
              have hcase : s'.e = 4 ∨ (okv = true ∧ s' = ⟨(wrote (ts.drop (k + 1))).take (j2 - (piece ts[k]).length), 0⟩ ∧ (piece ts[k]).length ≤ j2) := by
                rcases Nat.lt_or_ge j2 (piece ts[k]).length with hjp | hjp
                · left
                  have e : tb = (piece ts[k]).take j2 := by rw [Hsb2.out, wrote_drop ts k hlt, List.take_append_of_le_length (by omega)]
                  rw [e] at hst
                  have h4 := thing_short hok.1 hjp
                  rw [hst] at h4
                  exact h4
                · right
                  have e : tb = piece ts[k] ++ (wrote (ts.drop (k + 1))).take (j2 - (piece ts[k]).length) := by rw [Hsb2.out, wrote_drop ts k hlt, List.take_append, List.take_of_length_le hjp]
                  rw [e, thing_back hok.1] at hst
                  injection hst with h1 h2
                  exact ⟨h1.symm, h2.symm, hjp⟩
              have hwd : (wrote (ts.drop k)).length = (piece ts[k]).length + (wrote (ts.drop (k + 1))).length := by rw [wrote_drop ts k hlt, List.length_append]
              have hj3 := Hj2.out
              have h18 := H18.out
              rw [hwd] at hj3 h18
              obtain ⟨bk, off, qb, db, he, e0, e1, e2, hq, hnil, hbd, hbd2⟩ := HS.out.ts.at_ hlt
              subst he
              unfold maxLen at hbd2
              generalize (piece (ts[k]'hlt)).length = pl at *
              generalize ts[k]'hlt = t at *
              obtain ⟨what, n, b0⟩ := t
              simp only at e0 e1 e2 hq hnil hbd hok
              have hb1 := (Below.refl wr.heap.size wr).alloc (Nat.le_refl _) (.cells #[.int .i64 what, .int .u64 n, .slice qb b0.length db] 28)
              have HS1 := Lib.hid (HS.out.below hb1)
              have HQ1 := Lib.hid (hq.below hb1)
              have Hst := Lib.hid hst
              have K0 := Blk.new wr 28 #[.int .i64 what, .int .u64 n, .slice qb b0.length db]
              obtain ⟨m0, m1, m2, g0, g1, g2, hzt⟩ := K0.c3
              have Hcase := Lib.hid hcase
              clear hb1 hq hnil hst K0 HS hcase hwd
              go_wp2_with fail
              refine (reads_any HS1.out.rd HS1.out.la htl2 HQ1.out (fun h => by have := hS _ h; have := HS1.out.la; have := HS1.out.hil; have := HS1.out.whi; omega) hbd (by omega)).mono ?_
              rintro x w9 ⟨rfl, hr, hX⟩
              rw [Hst.out] at hr
              rw [Hst.out]
              have HS2 := Lib.hid (HS1.out.read hX hr hS hU)
              clear hr hX HS1 HQ1 m0 m1 m2 g0 g1 g2 hzt
              go_wp2_with fail
              refine (rd_Err HS2.out.rd).mono ?_
              rintro x w10 ⟨rfl, rfl⟩
              rcases Hcase.out with h4 | ⟨hokv, hs', hpj⟩
              · have hne : s'.e ≠ 0 := by rw [h4]; decide
                have hnum := rdNum_err hne
                have hlf := rdLeft_err hne
                have Hnum := Lib.hid hnum
                have Hlf := Lib.hid hlf
                rw [h4]
                have H4 := Lib.hid h4
                clear hne hnum hlf h4
                go_wp2_with fail
                refine (awake_true).mono ?_
                rintro x w11 ⟨rfl, hX⟩
                have HS3 := Lib.hid (HS2.out.below hX)
                clear hX HS2
                go_wp2_with fail
                refine (rd_Err HS3.out.rd).mono ?_
                rintro x w12 ⟨rfl, rfl⟩
                rw [H4.out]
                go_wp2_with fail
                refine (rd_Left HS3.out.rd).mono ?_
                rintro x w12 ⟨rfl, rfl⟩
                rw [Hlf.out]
                go_wp2_with fail
                refine (rd_Num HS3.out.rd HS3.out.la).mono ?_
                rintro x w12 ⟨rfl, hr, hX⟩
                rw [Hnum.out] at hr
                rw [Hnum.out]
                have HS4 := Lib.hid (HS3.out.read hX hr hS hU)
                clear hr hX HS3
                go_wp2_with fail
                go_ret
                exact ⟨rfl, HS4.out.bel⟩
              · subst hokv
                subst hs'
                go_wp2_with fail
                go_roundw
                case rel => exact ⟨k + 1, _, j2 - pl, by omega, by go_num, rfl, rfl, by omega, by omega, HS2.out⟩
                case measure => simp [intOf] <;> omega
            · obtain rfl : k = ts.length := by omega
              exfalso
              have h := Hj2.out
              rw [List.drop_length] at h
              exact absurd h (Nat.not_lt_zero _)
      · have hend : rdEnd ⟨sb, 0⟩ = ⟨sb, 3⟩ := by
          have hl : rdLeft ⟨sb, 0⟩ = sb.length := rfl
          unfold rdEnd
          rw [hl, if_pos (by omega)]
          rfl
        have Hend := Lib.hid hend
        clear hend
        have hz : ((sb.length : Int) == 0) = false := by rw [beq_eq_false_iff_ne]; omega
        have hz' : (sb.length == 0) = false := by rw [beq_eq_false_iff_ne]; omega
        have hp : 0 < sb.length := by omega
        have hne1 : (((sb.length : Int)) != (sb.length : Int)) = false := by simp
        clear hb0
        go_wp2_with fail
        refine (rd_End HS.out.rd HS.out.la).mono ?_
        rintro x w6 ⟨rfl, hr, hX⟩
        rw [Hend.out] at hr
        rw [Hend.out]
        have HS2 := Lib.hid (HS.out.read hX hr hS hU)
        clear hr hX HS Hend
        go_wp2_with fail
        refine (rd_Err HS2.out.rd).mono ?_
        rintro x w7 ⟨rfl, rfl⟩
        by_cases hbz : bs.length = 0
        · have tz : ((bs.length : Int) == 0) = true := by rw [beq_iff_eq]; omega
          have tz' : (bs.length == 0) = true := by rw [beq_iff_eq]; omega
          go_wp2_with fail
          refine (awake_true).mono ?_
          rintro x w8 ⟨rfl, hX⟩
          have HS3 := Lib.hid (HS2.out.below hX)
          clear hX HS2
          go_wp2_with fail
          go_ret
          exact ⟨rfl, HS3.out.bel⟩
        · have tz : ((bs.length : Int) == 0) = false := by rw [beq_eq_false_iff_ne]; omega
          have tz' : (bs.length == 0) = false := by rw [beq_eq_false_iff_ne]; omega
          obtain ⟨j, hj, hjl⟩ : ∃ j : Nat, (cut : Int) % (bs.length : Int) = (j : Int) ∧ j < bs.length := ⟨cut % bs.length, by omega, Nat.mod_lt _ (by omega)⟩
          have hbp : 1 ≤ (bs.length : Int) := by omega
          have htb := HS2.out.tb
          have hcc : bs.length ≤ c1 := by obtain ⟨_, _, _, h, h1, _⟩ := htb; injection h with _ _ h; omega
          have hcc2 : c1 ≤ maxLen := by obtain ⟨_, _, _, h, _, h1, _⟩ := htb; injection h with _ _ h; omega
          unfold maxLen at hcc2
          have HF := Lib.hid (htb.front (Nat.le_of_lt hjl))
          have hjc : j ≤ c1 := by omega
          clear hbz htb
          go_wp2_with fail
          clear hj
          refine (rd_New HF.out (by rw [List.length_take]; omega)).mono ?_
          rintro x w8 ⟨a2, rfl, hr, hla2, hlt2, hX⟩
          have hll := HS2.out.rd.lt
          have HB := Lib.hid (show Bk w S U hi (.slice p ts.length c) ts (.slice p1 bs.length c1) bs (.slice q sb.length d) sb w6.heap.size a2 ⟨bs.take j, 0⟩ w8 from
            ⟨HS2.out.bel.trans (hX.mono HS2.out.bel.size), HS2.out.ts.below hX, HS2.out.tb.below hX, CmdRd.below HS2.out.be hX, hr, hla2, by have := HS2.out.la; have := HS2.out.hil; omega, HS2.out.whi⟩)
          obtain ⟨lo2, hlo2⟩ : ∃ n, w6.heap.size = n := ⟨_, rfl⟩
          rw [hlo2] at HB
          clear hlo2 hr hX hla2 hlt2 hll HS2 HF
          go_wp2_with fail
          go_loopw [81] (fun i wr => ∃ (k : Nat) (s : RS) (j2 : Nat), k ≤ ts.length ∧ i = .int .i64 k ∧ s.e = 0 ∧ s.b = (wrote (ts.drop k)).take j2 ∧ j2 < (wrote (ts.drop k)).length ∧ (wrote (ts.drop k)).length ≤ 18600 ∧ Bk w S U hi (.slice p ts.length c) ts (.slice p1 bs.length c1) bs (.slice q sb.length d) sb lo2 a2 s wr) (fun i _ => ts.length - (intOf i).toNat)
          case atStart => exact ⟨0, ⟨bs.take j, 0⟩, j, Nat.zero_le _, rfl, rfl, by rw [List.drop_zero, Hbs.out], by rw [List.drop_zero, Hbs.out]; exact hjl, by rw [List.drop_zero, Hbs.out]; omega, HB.out⟩
          case round =>
            clear HB
            obtain ⟨k, s, j2, hk, rfl, hse, hsb2, hj2, hw18, hbk⟩ := hrel
            obtain ⟨tb, se⟩ := s
            obtain rfl : se = 0 := hse
            simp only at hsb2
            have HS := Lib.hid hbk
            have Hj2 := Lib.hid hj2
            have Hsb2 := Lib.hid hsb2
            have H18 := Lib.hid hw18
            have htl2 : tb.length ≤ 200000000000000 := by rw [hsb2, List.length_take]; omega
            clear hbk hj2 hsb2 hw18
            by_cases hlt : k < ts.length
            · have hok := Hok.out ts[k] (List.getElem_mem hlt)
              obtain ⟨okv, s', hst⟩ : ∃ okv s', rdThing ⟨tb, 0⟩ ts[k] = (okv, s') := ⟨_, _, rfl⟩
              have hcase : s'.e = 4 ∨ (okv = true ∧ s' = ⟨(wrote (ts.drop (k + 1))).take (j2 - (piece ts[k]).length), 0⟩ ∧ (piece ts[k]).length ≤ j2) := by
                rcases Nat.lt_or_ge j2 (piece ts[k]).length with hjp | hjp
                · left
                  have e : tb = (piece ts[k]).take j2 := by rw [Hsb2.out, wrote_drop ts k hlt, List.take_append_of_le_length (by omega)]
                  rw [e] at hst
                  have h4 := thing_short hok.1 hjp
                  rw [hst] at h4
                  exact h4
                · right
                  have e : tb = piece ts[k] ++ (wrote (ts.drop (k + 1))).take (j2 - (piece ts[k]).length) := by rw [Hsb2.out, wrote_drop ts k hlt, List.take_append, List.take_of_length_le hjp]
                  rw [e, thing_back hok.1] at hst
                  injection hst with h1 h2
                  exact ⟨h1.symm, h2.symm, hjp⟩
              have hwd : (wrote (ts.drop k)).length = (piece ts[k]).length + (wrote (ts.drop (k + 1))).length := by rw [wrote_drop ts k hlt, List.length_append]
              have hj3 := Hj2.out
              have h18 := H18.out
              rw [hwd] at hj3 h18
              obtain ⟨bk, off, qb, db, he, e0, e1, e2, hq, hnil, hbd, hbd2⟩ := HS.out.ts.at_ hlt
              subst he
              unfold maxLen at hbd2
              generalize (piece (ts[k]'hlt)).length = pl at *
              generalize ts[k]'hlt = t at *
              obtain ⟨what, n, b0⟩ := t
              simp only at e0 e1 e2 hq hnil hbd hok
              have hb1 := (Below.refl wr.heap.size wr).alloc (Nat.le_refl _) (.cells #[.int .i64 what, .int .u64 n, .slice qb b0.length db] 28)
              have HS1 := Lib.hid (HS.out.below hb1)
              have HQ1 := Lib.hid (hq.below hb1)
              have Hst := Lib.hid hst
              have K0 := Blk.new wr 28 #[.int .i64 what, .int .u64 n, .slice qb b0.length db]
              obtain ⟨m0, m1, m2, g0, g1, g2, hzt⟩ := K0.c3
              have Hcase := Lib.hid hcase
              clear hb1 hq hnil hst K0 HS hcase hwd
              go_wp2_with fail
              refine (reads_any HS1.out.rd HS1.out.la htl2 HQ1.out (fun h => by have := hS _ h; have := HS1.out.la; have := HS1.out.hil; have := HS1.out.whi; omega) hbd (by omega)).mono ?_
              rintro x w9 ⟨rfl, hr, hX⟩
              rw [Hst.out] at hr
              rw [Hst.out]
              have HS2 := Lib.hid (HS1.out.read hX hr hS hU)
              clear hr hX HS1 HQ1 m0 m1 m2 g0 g1 g2 hzt
              go_wp2_with fail
              refine (rd_Err HS2.out.rd).mono ?_
              rintro x w10 ⟨rfl, rfl⟩
              rcases Hcase.out with h4 | ⟨hokv, hs', hpj⟩
              · have hne : s'.e ≠ 0 := by rw [h4]; decide
                have hnum := rdNum_err hne
                have hlf := rdLeft_err hne
                have Hnum := Lib.hid hnum
                have Hlf := Lib.hid hlf
                rw [h4]
                have H4 := Lib.hid h4
                clear hne hnum hlf h4
                go_wp2_with fail
                refine (awake_true).mono ?_
                rintro x w11 ⟨rfl, hX⟩
                have HS3 := Lib.hid (HS2.out.below hX)
                clear hX HS2
                go_wp2_with fail
                refine (rd_Err HS3.out.rd).mono ?_
                rintro x w12 ⟨rfl, rfl⟩
                rw [H4.out]
                go_wp2_with fail
                refine (rd_Left HS3.out.rd).mono ?_
                rintro x w12 ⟨rfl, rfl⟩
                rw [Hlf.out]
                go_wp2_with fail
                refine (rd_Num HS3.out.rd HS3.out.la).mono ?_
                rintro x w12 ⟨rfl, hr, hX⟩
                rw [Hnum.out] at hr
                rw [Hnum.out]
                have HS4 := Lib.hid (HS3.out.read hX hr hS hU)
                clear hr hX HS3
                go_wp2_with fail
                go_ret
                exact ⟨rfl, HS4.out.bel⟩
              · subst hokv
                subst hs'
                go_wp2_with fail
                go_roundw
                case rel => exact ⟨k + 1, _, j2 - pl, by omega, by go_num, rfl, rfl, by omega, by omega, HS2.out⟩
                case measure => simp [intOf] <;> omega
            · obtain rfl : k = ts.length := by omega
              exfalso
              have h := Hj2.out
              rw [List.drop_length] at h
              exact absurd h (Nat.not_lt_zero _)
end Go.Proofs.Ytgmlgdfgooacbaa
