/-
  piece.joined: the contract. No condition but bounds far below what memory bears.
-/
import Derived.Test.YtelaiafpfaohfaaPut
namespace Go.Proofs.Ytelaiafpfaohfaa
open Go.RowKit
set_option linter.unusedSimpArgs false
set_option linter.unusedVariables false

theorem putL_len (out : List Pc) (p : Pc) : (putL out p).length ≤ out.length + 1 := by
  unfold putL
  split
  · split
    · rename_i z hz _
      have h1 : out ≠ [] := by rintro rfl; simp at hz
      have h2 := List.length_pos_iff.2 h1
      rw [List.length_append, List.length_dropLast, List.length_singleton]
      omega
    · simp
  · simp
theorem putL_ok {out : List Pc} {p : Pc} (h : PcsOk out) (hp : p.at_ + p.len ≤ 70368744177664) : PcsOk (putL out p) := by
  unfold putL
  split
  · rename_i z hz
    split
    · rename_i hc
      intro x hx
      rcases List.mem_append.1 hx with hx | hx
      · exact h x (List.dropLast_subset _ hx)
      · obtain rfl := List.mem_singleton.1 hx
        show z.at_ + (z.len + p.len) ≤ _
        omega
    · intro x hx
      rcases List.mem_append.1 hx with hx | hx
      · exact h x hx
      · obtain rfl := List.mem_singleton.1 hx
        exact hp
  · intro x hx
    obtain rfl := List.mem_singleton.1 hx
    exact hp
theorem fold_len : ∀ (l out : List Pc), (l.foldl putL out).length ≤ out.length + l.length
  | [], out => by simp
  | p :: r, out => by
    have := fold_len r (putL out p)
    have := putL_len out p
    simp only [List.foldl_cons, List.length_cons]
    omega
theorem fold_ok : ∀ (l out : List Pc), PcsOk out → PcsOk l → PcsOk (l.foldl putL out)
  | [], out, h, _ => h
  | p :: r, out, h, hl => fold_ok r (putL out p) (putL_ok h (hl p (by simp))) (fun x hx => hl x (by simp [hx]))
def joinL (rows : List (List Pc)) : List Pc := rows.flatten.foldl putL []
/-- The rows as they are handed in. -/
def RowsRd (w : World) (v : Value) (rows : List (List Pc)) : Prop := ∃ vs : List Value, Rd w (fun _ => True) 1 v rows.length vs ∧ ∀ i (h : i < rows.length), ∃ u, vs[i]? = some u ∧ PcsRd w (fun _ => True) u rows[i]
/-- What joined leaves. -/
def Joins (w : World) (l : List Pc) (e : Ending) (w' : World) : Prop := ∃ v, e = .returned v ∧ PcsOwn w' w.heap.size v l ∧ Below w.heap.size w w'

set_option maxHeartbeats 6400000 in
set_option maxRecDepth 100000 in
theorem joined_any {w : World} {v : Value} {rows : List (List Pc)} (h : RowsRd w v rows) (hok : PcsOk rows.flatten) (hn : rows.flatten.length ≤ 4000000) (hr : rows.length ≤ 1000000) :
    Calls Try.prog 37 #[v] w (Joins w (joinL rows)) := by
  have hmf : ∀ (fn : Fn) (first cap : Array Value) (w : World), (Instr.makeFunc fn first cap).run Try.prog w = .ok (.func fn first cap) w := fun _ _ _ _ => rfl
  obtain ⟨vs, hv, hel⟩ := h
  obtain ⟨p, c, rfl⟩ := Rd.slice hv
  have Hv := Lib.hid hv
  have Hel := Lib.hid hel
  have Hok := Lib.hid hok
  have Hn := Lib.hid hn
  clear hv hel hok hn
  have hB0 := Blk.new w 50 #[.slice none 0 0]
  have HB0 := Lib.hid hB0
  clear hB0
  go_enter Try.func37, Try.ntmps37
  go_wp2_with fail
  go_loopw [12] (fun i wr => ∃ k : Nat, k ≤ rows.length ∧ i = .int .i64 k ∧ Hid (∃ v', Blk wr w.heap.size 50 #[v'] ∧ PcsOwn wr w.heap.size v' ((rows.take k).flatten.foldl putL []) ∧ Below w.heap.size w wr)) (fun i _ => rows.length - (intOf i).toNat)
  case atStart => exact ⟨0, Nat.zero_le _, rfl, Lib.hid ⟨_, HB0.out, World.ownsRow_nil _ _ _ _, (Below.refl _ w).alloc (Nat.le_refl _) _⟩⟩
  case round =>
    obtain ⟨k, hk, rfl, hR⟩ := hrel
    by_cases hlt : k < rows.length
    · obtain ⟨u, hu, hru⟩ := Hel.out k hlt
      obtain ⟨b, off, he, _, _, hcell⟩ := Rd.addr Hv.out (by omega)
      subst he
      have e0 : w.cell? ⟨b, off + k, none⟩ = some u := hcell _ _ hu
      obtain ⟨q, d, rfl⟩ := Rd.slice hru
      have ltb := lt_of_cell e0
      obtain ⟨v0, hb0, ho0, hX0⟩ := hR.out
      obtain ⟨hc, -⟩ := bcell hX0
      rw [← hc b _ ltb] at e0
      have hsub : ∀ x ∈ rows[k]'hlt, x ∈ rows.flatten := fun x hx => List.mem_flatten.2 ⟨_, List.getElem_mem hlt, hx⟩
      have hfl : (rows.take (k + 1)).flatten = (rows.take k).flatten ++ rows[k]'hlt := by rw [take_snoc rows k hlt, List.flatten_append]; simp
      have htl : (rows.take (k + 1)).flatten.length ≤ rows.flatten.length := by
        conv => rhs; rw [← List.take_append_drop (k + 1) rows, List.flatten_append, List.length_append]
        omega
      have hnn := Hn.out
      have hsub0 : ∀ x ∈ (rows.take k).flatten, x ∈ rows.flatten := fun x hx => by
        obtain ⟨l, hl, hx⟩ := List.mem_flatten.1 hx
        exact List.mem_flatten.2 ⟨l, List.mem_of_mem_take hl, hx⟩
      generalize rows[k]'hlt = r at *
      rw [hfl, List.length_append] at htl
      obtain ⟨out0, hout0⟩ : ∃ o, o = (rows.take k).flatten.foldl putL [] := ⟨_, rfl⟩
      have Hlen0 := Lib.hid (show out0.length ≤ (rows.take k).flatten.length from by rw [hout0]; simpa using fold_len (rows.take k).flatten [])
      have Hok0 := Lib.hid (show PcsOk out0 from by rw [hout0]; exact fold_ok _ _ (by intro x hx; cases hx) (fun x hx => Hok.out x (hsub0 x hx)))
      have Hokr := Lib.hid (show PcsOk r from fun x hx => Hok.out x (hsub x hx))
      have hnext : (rows.take (k + 1)).flatten.foldl putL [] = r.foldl putL out0 := by rw [hfl, List.foldl_append, hout0]
      have Hnext := Lib.hid hnext
      have Htl := Lib.hid (Nat.le_trans htl hnn)
      have Hru := Lib.hid hru
      rw [← hout0] at ho0
      have HR0 := Lib.hid (show ∃ v', Blk wr w.heap.size 50 #[v'] ∧ PcsOwn wr w.heap.size v' out0 ∧ Below w.heap.size w wr from ⟨v0, hb0, ho0, hX0⟩)
      have hrl : r.length ≤ 4000000 := by omega
      clear hnext hfl htl hnn hsub hsub0 hout0 hru hb0 ho0 hX0 hc hu hcell hR
      go_wp2_with fail
      go_loopw [18] (fun i W => ∃ j : Nat, j ≤ r.length ∧ i = .int .i64 j ∧ Hid (∃ v', Blk W w.heap.size 50 #[v'] ∧ PcsOwn W w.heap.size v' ((r.take j).foldl putL out0) ∧ Below w.heap.size w W)) (fun i _ => r.length - (intOf i).toNat)
      case atStart => exact ⟨0, Nat.zero_le _, rfl, HR0⟩
      case round =>
        obtain ⟨j, hj, rfl, hQ⟩ := hrel
        by_cases hjl : j < r.length
        · have hpk := Hokr.out r[j] (List.getElem_mem hjl)
          obtain ⟨b2, off2, he, _, _, hcell⟩ := Rd.addr Hru.out (by omega)
          subst he
          obtain ⟨e0, e1, e2⟩ := pc_at hjl
          have x0 := hcell _ _ e0
          have x1 := hcell _ _ e1
          have x2 := hcell _ _ e2
          clear e0 e1 e2
          have e0 : w.cell? ⟨b2, off2 + j * 3, none⟩ = some (.bool r[j].second) := x0
          have e1 : w.cell? ⟨b2, off2 + j * 3 + 1, none⟩ = some (.int .i64 r[j].at_) := x1
          have e2 : w.cell? ⟨b2, off2 + j * 3 + 2, none⟩ = some (.int .i64 r[j].len) := x2
          clear x0 x1 x2
          have ltb2 := lt_of_cell e0
          obtain ⟨v1, hb1, ho1, hX1⟩ := hQ.out
          obtain ⟨hc, -⟩ := bcell hX1
          rw [← hc b2 _ ltb2] at e0 e1 e2
          have hts := take_snoc r j hjl
          have hlen1 : ((r.take j).foldl putL out0).length ≤ 4000000 := by
            have h1 := fold_len (r.take j) out0
            have h2 := Hlen0.out
            have h3 := Htl.out
            have h4 : (r.take j).length ≤ r.length := by rw [List.length_take]; omega
            omega
          have hok1 : PcsOk ((r.take j).foldl putL out0) := fold_ok _ _ Hok0.out (fun x hx => Hokr.out x (List.mem_of_mem_take hx))
          have Hnx := Lib.hid (show (r.take (j + 1)).foldl putL out0 = putL ((r.take j).foldl putL out0) r[j] from by rw [hts, List.foldl_append]; rfl)
          generalize (r.take j).foldl putL out0 = out1 at *
          generalize r[j]'hjl = pc at *
          obtain ⟨sec, at_, ln⟩ := pc
          have hszw := hX1.size
          have HB1 := Lib.hid (hb1.alloc (.cells #[.bool sec, .int .i64 at_, .int .i64 ln] 58))
          have HO1 := Lib.hid (show PcsOwn (wr.alloc (.cells #[.bool sec, .int .i64 at_, .int .i64 ln] 58)) w.heap.size v1 out1 from own_alloc ho1 _)
          have HX2 := Lib.hid (hX1.alloc hszw (.cells #[.bool sec, .int .i64 at_, .int .i64 ln] 58))
          have hK8 := Blk.new wr 58 #[.bool sec, .int .i64 at_, .int .i64 ln]
          obtain ⟨g0, g1, g2, -, -, -, -⟩ := hK8.c3
          clear hb1 ho1 hX1 hc hcell hts hQ hK8
          go_wp2_with fail
          refine (put_any (B0 := w.heap.size) (p := ⟨sec, at_, ln⟩) HB1.out HO1.out (Nat.le_refl _) (Nat.le_refl _) (Nat.le_trans hszw (by simp)) hlen1 hok1 hpk).mono ?_
          rintro e W2 ⟨rfl, v2, hb2, ho2, hx2⟩
          have HF := Lib.hid (show ∃ v', Blk W2 w.heap.size 50 #[v'] ∧ PcsOwn W2 w.heap.size v' ((r.take (j + 1)).foldl putL out0) ∧ Below w.heap.size w W2 from ⟨v2, hb2, by rw [Hnx.out]; exact ho2, HX2.out.trans hx2⟩)
          clear hb2 ho2 hx2
          go_wp2_with fail
          go_roundw
          case rel => exact ⟨j + 1, by omega, by go_num, HF⟩
          case measure => simp [intOf] <;> omega
        · obtain rfl : j = r.length := by omega
          go_wp2_with fail
          go_roundw
          case rel => exact ⟨k + 1, by omega, by go_num, by rw [Hnext.out]; rw [List.take_length] at hQ; exact hQ⟩
          case measure => simp [intOf] <;> omega
    · obtain rfl : k = rows.length := by omega
      rw [List.take_length] at hR
      obtain ⟨v0, hb0, ho0, hX0⟩ := hR.out
      obtain ⟨m0, -, -⟩ := hb0.c1
      have HO := Lib.hid ho0
      have HX := Lib.hid hX0
      clear hR ho0 hX0 hb0
      go_wp2_with fail
      go_ret
      exact ⟨_, rfl, HO.out, HX.out⟩
end Go.Proofs.Ytelaiafpfaohfaa
