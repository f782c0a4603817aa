/-
  ChangePlays' walk: it returns true. (Printed by wip/gen_plays22.py.)
-/
import Derived.Test.YtgmekodfkhihiaaPlaysT22
import Derived.Test.YtgmekodfkhihiaaPlaysU22
import Derived.LoopTactic
import Derived.Deep.DeepCutAuto
import Derived.Deep.CutBlock
namespace Go.Proofs.Ytgmekodfkhihiaa
open Go.RowKit Go.Maps
set_option linter.unusedSimpArgs false
set_option linter.unusedVariables false

theorem lk_new : Lk 0 no7 no7 (List.replicate 7 noPk) [] [] := ⟨bitsOf_nil.symm, List.nodup_nil, (fun j hj => by cases hj), Held.nil _, fun p hp => by rw [List.eq_of_mem_replicate hp]; exact noPk_ok, rfl, by decide, by decide⟩
theorem EntsRd.front_ {w : World} {S : Nat → Prop} {p : Option Addr} {c k : Nat} {es x : List Ent} (h : EntsRd w S (.slice p es.length c) es) (hx : es.take k = x) : EntsRd w S (.slice p x.length c) x ∧ x.length ≤ k ∧ x.length ≤ es.length := by
  subst hx
  rw [List.length_take]
  refine ⟨?_, by omega, by omega⟩
  rcases Nat.le_total k es.length with hk | hk
  · rw [Nat.min_eq_left hk]
    exact EntsRd.front h hk
  · rw [Nat.min_eq_right hk, List.take_of_length_le hk]
    exact h
theorem EntsRd.cap {w : World} {S : Nat → Prop} {p : Option Addr} {c : Nat} {es : List Ent} (h : EntsRd w S (.slice p es.length c) es) : es.length ≤ c ∧ c ≤ maxLen := by
  obtain ⟨_, ⟨_, _, _, h, h1, h2, _⟩, _⟩ := h
  injection h with _ _ h
  subst h
  exact ⟨h1, h2⟩
theorem plays_new {w w1 w2 : World} {n me : Int} {cb vb g : Nat} (hc : ChAt w1 (fun _ => False) cb vb g n me 0 no7 no7 (List.replicate 7 noPk)) (h1 : w.heap.size ≤ cb) (h2 : w.heap.size ≤ vb) (h3 : w.heap.size ≤ g) (hb : Below w.heap.size w w1)
    (hr : RCh w2 (fun j => j = w1.heap.size) (fun j => j < w.heap.size) w1.heap.size n me 0 [] []) (hb2 : Below w1.heap.size w1 w2) : Gd w.heap.size w2 (fun j => j < w.heap.size) (fun _ => False) cb w1.heap.size n me 0 := by
  have hlt := hc.lt
  have z1 := hb.size
  have z2 := hb2.size
  exact ⟨no7, no7, List.replicate 7 noPk, [], [], ⟨fun _ => False, fun j => j = w1.heap.size, vb, g, hc.below hb2, hr, fun _ h => h.elim, fun j hj => by omega, ⟨h1, h2, h3⟩, fun j hj => ⟨id, by omega, by omega, by omega⟩, by omega, fun _ h => h, fun _ h => h.elim⟩, lk_new⟩

set_option maxHeartbeats 25600000 in
set_option maxRecDepth 100000 in
theorem plays_walk {w : World} {v2 : Value} {n me : Int} {L : List Oq} (ha : OqsRd w (fun j => j < w.heap.size) v2 L) (hok : ∀ o ∈ L, OqOk o) :
    Calls Try.prog 5 #[.int .i64 n, .int .i64 me, v2] w fun e w' => e = .returned (.bool true) ∧ Below w.heap.size w w' := by
  obtain ⟨p2, c2, rfl⟩ : ∃ p c, v2 = .slice p L.length c := by obtain ⟨_, hr, _⟩ := ha; exact Rd.slice hr
  have hla : L.length ≤ maxLen := by obtain ⟨_, hr, _⟩ := ha; exact Rd.le hr
  unfold maxLen at hla
  have Ha := Lib.hid ha
  have Hok := Lib.hid hok
  clear ha hok
  by_cases hbad : n < 1 ∨ 7 < n ∨ n % 2 = 0 ∨ me < 0 ∨ n ≤ me
  · go_enter Try.func5, Try.ntmps5
    clear Ha Hok
    go_wp2_with fail
    refine (ch_New_arg hbad).mono ?_
    rintro _ w1 ⟨rfl, hb⟩
    have HX1 := Lib.hid hb
    clear hb
    go_wp2_with fail
    refine (rf_New_arg hbad).mono ?_
    rintro _ _ ⟨rfl, rfl⟩
    go_wp2_with fail
    refine wakes_true.mono ?_
    rintro _ w4 ⟨rfl, hX⟩
    have HX4 := Lib.hid (HX1.out.trans (hX.mono HX1.out.size))
    clear hX
    go_wp2_with fail
    go_ret
    exact ⟨rfl, HX4.out⟩
  · have hnum : NumOk n me := ⟨by omega, by omega, by omega⟩
    have Hk := Lib.hid hnum
    clear hnum hbad
    go_enter Try.func5, Try.ntmps5
    go_wp2_with fail
    refine (ch_New Hk.out).mono ?_
    rintro _ w1 ⟨cb0, vb0, g0, rfl, hc, h1, h2, h3, hb⟩
    have HC := Lib.hid hc
    have HZ := Lib.hid (And.intro h1 (And.intro h2 h3))
    have HX1 := Lib.hid hb
    clear hc h1 h2 h3 hb
    go_wp2_with fail
    refine (rf_New (A := fun j => j < w.heap.size) Hk.out).mono ?_
    rintro _ w2 ⟨rfl, hr, hb2⟩
    have HG := Lib.hid (plays_new HC.out HZ.out.1 HZ.out.2.1 HZ.out.2.2 HX1.out hr hb2)
    have HX := Lib.hid (HX1.out.trans (hb2.mono HX1.out.size))
    clear hr hb2 HC HZ HX1
    generalize w1.heap.size = rb at *
    go_wp2_with fail
    go_loopw [7, 11] (fun xv iv wr => ∃ (k cb : Nat) (v : Int), k ≤ L.length ∧ k ≤ 60 ∧ xv = .pointer (some ⟨cb, 0, none⟩) ∧ iv = .int .i64 k ∧ Hid (Gd w.heap.size wr (fun j => j < w.heap.size) (fun _ => False) cb rb n me v ∧ Below w.heap.size w wr)) (fun _ iv _ => L.length - (intOf iv).toNat)
    case atStart => exact ⟨0, cb0, 0, Nat.zero_le _, Nat.zero_le _, rfl, rfl, Lib.hid ⟨HG.out, HX.out⟩⟩
    case round =>
      obtain ⟨k, cb, v, hk, hk60, rfl, rfl, hR⟩ := hrel
      clear HG HX
      by_cases hlt : k < L.length
      · by_cases h60 : k = 60
        · subst h60
          go_wp2_with fail
          refine wakes_true.mono ?_
          rintro _ w4 ⟨rfl, hX⟩
          have HX4 := Lib.hid (hR.out.2.trans (hX.mono hR.out.2.size))
          clear hX
          go_wp2_with fail
          go_ret
          exact ⟨rfl, HX4.out⟩
        · have hk1 : k < 60 := by omega
          obtain ⟨bk, off, qa, da, rfl, e0, e1, e2, e3, e4, e5, e6, hq⟩ := OqsRd.at_ (Ha.out.keep (fun k hk _ => hR.out.2.block k hk) (fun _ h _ => h)) hlt
          have hoo := Hok.out L[k] (List.getElem_mem hlt)
          generalize L[k]'hlt = oq at *
          obtain ⟨what, ahead, frm, ⟨pl, pb, pc, es0⟩⟩ := oq
          simp only at e0 e1 e2 e3 e4 e5 e6 hq hoo
          obtain ⟨es, hes⟩ : ∃ x, es0.take 66 = x := ⟨_, rfl⟩
          obtain ⟨hqx, h66, hxl⟩ := hq.front_ hes
          have hcap := hq.cap
          unfold maxLen at hcap
          have hmin : (if (66 : Int) < (es0.length : Int) then (66 : Int) else (es0.length : Int)) = (es.length : Int) := by rw [← hes, List.length_take]; split <;> omega
          have hxd : (es.length : Int) ≤ (da : Int) := by omega
          have Hfit := Lib.hid (show Fits es from by rw [← hes]; exact hoo.1.take 66)
          have HP := Lib.hid (show 0 ≤ pb ∧ 0 ≤ pc ∧ -9223372036854775808 ≤ frm ∧ frm ≤ 9223372036854775807 ∧ -128 ≤ ahead ∧ ahead ≤ 127 from hoo.2)
          have hbA := (Below.refl wr.heap.size wr).alloc (Nat.le_refl _) (.cells #[.int .i64 what, .int .i8 ahead, .int .i64 frm, .int .u64 pl, .int .u64 pb, .int .u64 pc, .slice qa es.length da] 56)
          have kA := Blk.new wr 56 #[.int .i64 what, .int .i8 ahead, .int .i64 frm, .int .u64 pl, .int .u64 pb, .int .u64 pc, .slice qa es.length da]
          have HG0 := Lib.hid (hR.out.1.add (F' := fun j => j = wr.heap.size) hbA (fun j hj => .inr ⟨by omega, by rw [hj, World.size_alloc]; omega⟩))
          have HS0 := Lib.hid (show Sd w (wr.alloc (.cells #[.int .i64 what, .int .i8 ahead, .int .i64 frm, .int .u64 pl, .int .u64 pb, .int .u64 pc, .slice qa es.length da] 56)) (fun j => j < w.heap.size) (fun j => j = wr.heap.size) wr.heap.size what ahead frm ⟨pl, pb, pc, es⟩ qa da from ⟨hR.out.2.trans (hbA.mono hR.out.2.size), kA, hqx.below hbA, ⟨rfl, hR.out.2.size⟩, fun _ h => h⟩)
          clear hq hqx hoo hes hcap hxl hbA kA hR h60
          go_upto_region 12 with fail
          clear hmin hxd e0 e1 e2 e3 e4 e5 e6 hk60
          generalize wr.alloc (.cells #[.int .i64 what, .int .i8 ahead, .int .i64 frm, .int .u64 pl, .int .u64 pb, .int .u64 pc, .slice qa es.length da] 56) = W at *
          generalize wr.heap.size = A at *
          have a1 := HS0.out.kA.cell 1
          have a0 := HS0.out.kA.cell 0
          have r2 := HG0.out.view.1
          have hzr := HG0.out.view.2
          simp only [List.getElem?_toArray, List.getElem?_cons_succ, List.getElem?_cons_zero] at a1 a0
          go_region
          go_upto_block 2 with fail
          have HG1 := Lib.hid (HG0.out.below (Below.refl _ W).drew)
          have HS1 := Lib.hid (HS0.out.below (Below.refl _ W).drew)
          clear a1 a0 r2 hzr HG0 HS0
          generalize W.drew = V at *
          obtain ⟨vn, hvn⟩ : ∃ x, IntKind.u64.wrap (v + IntKind.u64.wrap (wrap64 ahead)) = x := ⟨_, rfl⟩
          rw [hvn]
          have Hvn := Lib.hid (show 0 ≤ vn ∧ vn < 18446744073709551616 from by rw [← hvn, IntKind.wrap_u64]; omega)
          clear hvn
          have hSw : SwH w V cb rb A n me v vn what ahead frm pl pb pc es qa da := ⟨HG1.out, HS1.out, Hk.out, Hvn.out, Hfit.out, h66, ⟨HP.out.1, HP.out.2.1⟩⟩
          have Hfrm := Lib.hid (show frm ≤ 9223372036854775807 from HP.out.2.2.2.1)
          clear HG1 HS1 Hfit HP h66
          refine sw_all hSw ?_
          clear hSw
          intro z7 z14 z15 z16 z17 z18 z19 z20 z21 z22 z23 z24 z25 z92 z93 z94 z95 z96 z97 z98 z99 z100 z101 z102 z103 z104 z105 z106 z107 z108 z109 z110 z111 z112 z113 z114 z115 z116 z117 z118 z119 z120 z121 z122 z123 z124 z125 z126 z127 z128 z129 z130 z131 z132 z133 z134 z135 z136 z137 z138 z139 z140 z141 z142 z143 z144 z145 z146 z147 z148 z149 z150 z151 z152 z153 z154 z155 z156 z157 z158 z159 z160 z161 z162 z163 z164 z165 z166 z167 z168 z169 z170 z171 z172 z173 z174 z175 z176 z177 z178 z179 z180 z181 z182 z183 z184 z185 z186 z187 z188 z189 z190 z191 z192 z193 z194 z195 z196 z197 z198 z199 z200 z201 z202 z203 z204 z205 z206 z207 z208 z209 z210 z211 z212 wc hrel
          obtain ⟨cb, v, rfl, rfl, hC⟩ := hrel
          rename_i hKa
          apply hKa
          refine rest_all hC.out.1 hC.out.2 Hk.out Hvn.out Hfrm.out ?hq ?_
          case hq => exact fun _ _ _ _ _ h => h
          clear hC
          intro y14 y26 y27 y28 y29 y30 y213 y214 y215 y216 y217 y218 y219 y220 y221 y222 y223 y224 y225 y226 y227 y228 y229 y230 y231 y232 y233 y234 y235 y236 y237 y238 y239 y240 y241 y242 y243 y244 y245 y246 y247 y248 y249 y250 y251 y252 y253 y254 y255 y256 y257 y258 y259 y260 y261 y262 y263 y264 y265 y266 y267 y268 y269 y270 y271 wd hD
          have HD := Lib.hid hD
          clear hD
          go_wp2_with fail
          go_roundw
          case rel => exact ⟨k + 1, cb, v, by omega, by omega, rfl, by go_num, HD⟩
          case measure => simp [intOf]; omega
      · obtain rfl : k = L.length := by omega
        go_wp2_with fail
        refine wakes_true.mono ?_
        rintro _ w4 ⟨rfl, hX⟩
        have HX4 := Lib.hid (hR.out.2.trans (hX.mono hR.out.2.size))
        clear hX
        go_wp2_with fail
        go_ret
        exact ⟨rfl, HX4.out⟩
end Go.Proofs.Ytgmekodfkhihiaa
