/-
  Answers: what they hold, how they lie in memory. No walk.
-/
import Derived.Test.YtciojggkcmdjiaaDoorRefV15
import Derived.Test.YtciojggkcmdjiaaDoorOpenU15
namespace Go.Proofs.YtciojggkcmdjiaaDoor
open Go.RowKit
set_option linter.unusedSimpArgs false
set_option linter.unusedVariables false

structure Opr where
  cl : Int
  rq : Int
  us : List Ut
  un : Bool
deriving DecidableEq
structure St where
  cl : Int
  pos : Int
  til : Int
deriving DecidableEq
structure An where
  err : Int
  doc : Int
  rev : Int
  whole : Bool
  text : List Int
  ops : List Opr
  seats : List St
deriving DecidableEq
def OprR (w : World) (S : Nat → Prop) (c : List Value) (o : Opr) : Prop := ∃ p k, c = [.int .u32 o.cl, .int .u64 o.rq, .slice p o.us.length k, .bool o.un] ∧ UtsRd w S (.slice p o.us.length k) o.us
def OpsRd (w : World) (S : Nat → Prop) (v : Value) (os : List Opr) : Prop := ∃ cs, Rd w S 4 v os.length cs ∧ Els (OprR w S) 4 cs os
def stCells (s : St) : List Value := [.int .u32 s.cl, .int .i64 s.pos, .int .u64 s.til]
def StR (c : List Value) (s : St) : Prop := c = stCells s
def StsRd (w : World) (S : Nat → Prop) (v : Value) (ss : List St) : Prop := ∃ cs, Rd w S 3 v ss.length cs ∧ Els StR 3 cs ss
def chCells (t : List Int) : List Value := t.map fun c => .int .i32 c
def ChsRd (w : World) (S : Nat → Prop) (v : Value) (t : List Int) : Prop := Rd w S 1 v t.length (chCells t)
theorem OprR.four {w : World} {S : Nat → Prop} {c : List Value} {o : Opr} (h : OprR w S c o) : ∀ u ∈ c, u.oneCell' = true := by
  obtain ⟨p, k, rfl, _⟩ := h
  intro u hu
  simp at hu
  rcases hu with rfl | rfl | rfl | rfl <;> rfl

theorem OpsRd.below {w w' : World} {S : Nat → Prop} {v : Value} {os : List Opr} (h : OpsRd w S v os) (hb : Below w.heap.size w w') : OpsRd w' S v os := by
  obtain ⟨cs, hr, hE⟩ := h
  exact ⟨cs, Rd.below hr (by decide) hb, hE.imp fun c x _ ⟨p, k, hc, hu⟩ => ⟨p, k, hc, hu.below hb⟩⟩
theorem OpsRd.into {w : World} {S S' : Nat → Prop} {v : Value} {os : List Opr} (h : OpsRd w S v os) (hs : ∀ j, S j → S' j) : OpsRd w S' v os := by
  obtain ⟨cs, hr, hE⟩ := h
  exact ⟨cs, hr.keep (fun _ _ _ => rfl) (fun k hk _ => hs k hk) (by decide), hE.imp fun c x _ ⟨p, k, hc, hu⟩ => ⟨p, k, hc, hu.keep (fun _ _ _ => rfl) (fun k hk _ => hs k hk)⟩⟩
theorem StsRd.below {w w' : World} {S : Nat → Prop} {v : Value} {ss : List St} (h : StsRd w S v ss) (hb : Below w.heap.size w w') : StsRd w' S v ss := by
  obtain ⟨cs, hr, hE⟩ := h
  exact ⟨cs, Rd.below hr (by decide) hb, hE⟩
theorem ChsRd.below {w w' : World} {S : Nat → Prop} {v : Value} {t : List Int} (h : ChsRd w S v t) (hb : Below w.heap.size w w') : ChsRd w' S v t := Rd.below h (by decide) hb
theorem UtsRd.into {w : World} {S S' : Nat → Prop} {v : Value} {us : List Ut} (h : UtsRd w S v us) (hs : ∀ j, S j → S' j) : UtsRd w S' v us := h.keep (fun _ _ _ => rfl) (fun k hk _ => hs k hk)
theorem StsRd.into {w : World} {S S' : Nat → Prop} {v : Value} {ss : List St} (h : StsRd w S v ss) (hs : ∀ j, S j → S' j) : StsRd w S' v ss := by
  obtain ⟨cs, hr, hE⟩ := h
  exact ⟨cs, hr.keep (fun _ _ _ => rfl) (fun k hk _ => hs k hk) (by decide), hE⟩
theorem ChsRd.into {w : World} {S S' : Nat → Prop} {v : Value} {t : List Int} (h : ChsRd w S v t) (hs : ∀ j, S j → S' j) : ChsRd w S' v t := Rd.keep h (fun _ _ _ => rfl) (fun k hk _ => hs k hk) (by decide)
theorem OpsRd.slice {w : World} {S : Nat → Prop} {v : Value} {os : List Opr} (h : OpsRd w S v os) : ∃ p c, v = .slice p os.length c := by
  obtain ⟨_, hr, _⟩ := h
  exact Rd.slice hr
theorem StsRd.slice {w : World} {S : Nat → Prop} {v : Value} {ss : List St} (h : StsRd w S v ss) : ∃ p c, v = .slice p ss.length c := by
  obtain ⟨_, hr, _⟩ := h
  exact Rd.slice hr
theorem ChsRd.slice {w : World} {S : Nat → Prop} {v : Value} {t : List Int} (h : ChsRd w S v t) : ∃ p c, v = .slice p t.length c := Rd.slice h
theorem fourA_at {cs : List Value} {k : Nat} {a b c d : Value} (h : (cs.drop k).take 4 = [a, b, c, d]) : cs[k]? = some a ∧ cs[k + 1]? = some b ∧ cs[k + 2]? = some c ∧ cs[k + 3]? = some d := by
  have g : ∀ j, j < 4 → cs[k + j]? = [a, b, c, d][j]? := fun j hj => by rw [← h, List.getElem?_take_of_lt hj, List.getElem?_drop]
  exact ⟨by simpa using g 0 (by omega), by simpa using g 1 (by omega), by simpa using g 2 (by omega), by simpa using g 3 (by omega)⟩
theorem threeA_at {cs : List Value} {k : Nat} {a b c : Value} (h : (cs.drop k).take 3 = [a, b, c]) : cs[k]? = some a ∧ cs[k + 1]? = some b ∧ cs[k + 2]? = some c := by
  have g : ∀ j, j < 3 → cs[k + j]? = [a, b, c][j]? := fun j hj => by rw [← h, List.getElem?_take_of_lt hj, List.getElem?_drop]
  exact ⟨by simpa using g 0 (by omega), by simpa using g 1 (by omega), by simpa using g 2 (by omega)⟩
/-- The j-th operation, cell by cell. -/
theorem OpsRd.at_ {w : World} {S : Nat → Prop} {p : Option Addr} {c : Nat} {os : List Opr} (h : OpsRd w S (.slice p os.length c) os) {j : Nat} (hj : j < os.length) : ∃ g off q k, p = some ⟨g, off, none⟩ ∧ os.length ≤ c ∧ w.cell? ⟨g, off + j * 4, none⟩ = some (.int .u32 os[j].cl) ∧ w.cell? ⟨g, off + j * 4 + 1, none⟩ = some (.int .u64 os[j].rq) ∧
    w.cell? ⟨g, off + j * 4 + 2, none⟩ = some (.slice q os[j].us.length k) ∧ w.cell? ⟨g, off + j * 4 + 3, none⟩ = some (.bool os[j].un) ∧ UtsRd w S (.slice q os[j].us.length k) os[j].us := by
  obtain ⟨cs, hr, hE⟩ := h
  obtain ⟨g, off, he, hc, -, hcell⟩ := Rd.addr hr (by omega)
  obtain ⟨q, k, hu, hU⟩ := hE.2 j os[j] (List.getElem?_eq_getElem hj)
  obtain ⟨h0, h1, h2, h3⟩ := fourA_at hu
  exact ⟨g, off, q, k, he, hc, hcell _ _ h0, hcell _ _ h1, hcell _ _ h2, hcell _ _ h3, hU⟩
theorem StsRd.at_ {w : World} {S : Nat → Prop} {p : Option Addr} {c : Nat} {ss : List St} (h : StsRd w S (.slice p ss.length c) ss) {j : Nat} (hj : j < ss.length) : ∃ g off, p = some ⟨g, off, none⟩ ∧ ss.length ≤ c ∧ w.cell? ⟨g, off + j * 3, none⟩ = some (.int .u32 ss[j].cl) ∧ w.cell? ⟨g, off + j * 3 + 1, none⟩ = some (.int .i64 ss[j].pos) ∧ w.cell? ⟨g, off + j * 3 + 2, none⟩ = some (.int .u64 ss[j].til) := by
  obtain ⟨cs, hr, hE⟩ := h
  obtain ⟨g, off, he, hc, -, hcell⟩ := Rd.addr hr (by omega)
  have hu : (cs.drop (j * 3)).take 3 = stCells ss[j] := hE.2 j ss[j] (List.getElem?_eq_getElem hj)
  obtain ⟨h0, h1, h2⟩ := threeA_at hu
  exact ⟨g, off, he, hc, hcell _ _ h0, hcell _ _ h1, hcell _ _ h2⟩
theorem ChsRd.at_ {w : World} {S : Nat → Prop} {p : Option Addr} {c : Nat} {t : List Int} (h : ChsRd w S (.slice p t.length c) t) {j : Nat} (hj : j < t.length) : ∃ g off, p = some ⟨g, off, none⟩ ∧ t.length ≤ c ∧ w.cell? ⟨g, off + j, none⟩ = some (.int .i32 t[j]) := by
  obtain ⟨g, off, he, hc, -, hcell⟩ := Rd.addr h (by omega)
  exact ⟨g, off, he, hc, hcell _ _ (by unfold chCells; rw [List.getElem?_map, List.getElem?_eq_getElem hj]; rfl)⟩
/-- The numbers are of their kinds. -/
structure WfO (o : Opr) : Prop where
  cl : 0 ≤ o.cl ∧ o.cl ≤ 4294967295
  rq : 0 ≤ o.rq ∧ o.rq ≤ 18446744073709551615
  us : ∀ u ∈ o.us, WfU u
  few : o.us.length ≤ 300
structure WfS (s : St) : Prop where
  cl : 0 ≤ s.cl ∧ s.cl ≤ 4294967295
  til : 0 ≤ s.til ∧ s.til ≤ 18446744073709551615
/-- An answer of the law: its numbers are of their kinds; it is short. -/
structure WfA (a : An) : Prop where
  err : a.err ≤ 9223372036854775807
  doc : 0 ≤ a.doc ∧ a.doc ≤ 4294967295
  rev : 0 ≤ a.rev
  ops : ∀ o ∈ a.ops, WfO o
  seats : ∀ s ∈ a.seats, WfS s
  text : a.text.length ≤ 300
  nops : a.ops.length ≤ 20
  nseats : a.seats.length ≤ 20
def mayT (a : An) : Bool := (a.whole || decide (a.text.length = 0)) && !a.text.any (fun c => !mayC c)
def badO (o : Opr) : Bool := !rowB o.us
def badS (s : St) : Bool := !farB s.pos
def mayAn (a : An) : Bool := decide (0 ≤ a.err) && (decide (a.rev ≤ 1099511627776) && (mayT a && (!a.ops.any badO && (decide (a.seats.length ≤ 16) && !a.seats.any badS))))
def oprBytes (o : Opr) : List UInt8 := Lib.uvarint o.cl.toNat ++ Lib.uvarint o.rq.toNat ++ Lib.uvarint o.un.toNat ++ rowBytes o.us
def stBytes (s : St) : List UInt8 := Lib.uvarint s.cl.toNat ++ Lib.uvarint s.pos.toNat ++ Lib.uvarint s.til.toNat
def chBytes (c : Int) : List UInt8 := Lib.uvarint c.toNat
def anBytes (a : An) : List UInt8 := Lib.uvarint a.err.toNat ++ Lib.uvarint a.doc.toNat ++ Lib.uvarint a.rev.toNat ++ Lib.uvarint a.whole.toNat ++ Lib.uvarint a.text.length ++ a.text.flatMap chBytes ++ Lib.uvarint a.ops.length ++ a.ops.flatMap oprBytes ++ Lib.uvarint a.seats.length ++ a.seats.flatMap stBytes
theorem mayAn_ok {a : An} (h : mayAn a = true) : 0 ≤ a.err ∧ a.rev ≤ 1099511627776 ∧ (∀ c ∈ a.text, mayC c = true) ∧ (∀ o ∈ a.ops, rowB o.us = true) ∧ a.seats.length ≤ 16 ∧ ∀ s ∈ a.seats, farB s.pos = true := by
  unfold mayAn mayT at h
  simp only [Bool.and_eq_true, decide_eq_true_eq, Bool.not_eq_true'] at h
  obtain ⟨h1, h2, ⟨_, h3⟩, h4, h5, h6⟩ := h
  rw [List.any_eq_false] at h3 h4 h6
  exact ⟨h1, h2, fun c hc => by simpa using h3 c hc, fun o ho => by simpa [badO] using h4 o ho, h5, fun s hs => by simpa [badS] using h6 s hs⟩
theorem WfO.ok {o : Opr} (h : WfO o) (hr : rowB o.us = true) : ∀ u ∈ o.us, OkU u := (rowB_ok hr h.us).2
theorem uv1 {n : Nat} (h : n < 128) : (Lib.uvarint n).length = 1 := by rw [Lib.uvarint_small h]; rfl
theorem chBytes_len {c : Int} (h : mayC c = true) : (chBytes c).length ≤ 10 := Lib.uvarint_length64 (by have := mayC_iff h; omega)
theorem oprBytes_len {o : Opr} (h : WfO o) (hr : rowB o.us = true) : (oprBytes o).length ≤ 20000 := by
  have u1 := Lib.uvarint_length64 (show o.cl.toNat < 18446744073709551616 by have := h.cl; omega)
  have u2 := Lib.uvarint_length64 (show o.rq.toNat < 18446744073709551616 by have := h.rq; omega)
  have u3 := Lib.uvarint_length64 (show o.un.toNat < 18446744073709551616 by cases o.un <;> decide)
  have u4 := Lib.uvarint_length64 (show o.us.length < 18446744073709551616 by have := h.few; omega)
  have u5 := flatUnits_len (h.ok hr)
  have u6 := h.few
  unfold oprBytes rowBytes
  simp only [List.length_append]
  omega
theorem stBytes_len {s : St} (h : WfS s) (hr : farB s.pos = true) : (stBytes s).length ≤ 30 := by
  unfold farB at hr
  simp only [Bool.and_eq_true, decide_eq_true_eq] at hr
  have u1 := Lib.uvarint_length64 (show s.cl.toNat < 18446744073709551616 by have := h.cl; omega)
  have u2 := Lib.uvarint_length64 (show s.pos.toNat < 18446744073709551616 by omega)
  have u3 := Lib.uvarint_length64 (show s.til.toNat < 18446744073709551616 by have := h.til; omega)
  unfold stBytes
  simp only [List.length_append]
  omega
theorem flat_len {α : Type} {f : α → List UInt8} {m : Nat} : ∀ {l : List α}, (∀ x ∈ l, (f x).length ≤ m) → (l.flatMap f).length ≤ m * l.length
  | [], _ => by simp
  | x :: l, h => by
    have h1 := h x List.mem_cons_self
    have h2 := flat_len (l := l) fun y hy => h y (List.mem_cons_of_mem _ hy)
    rw [List.flatMap_cons, List.length_append, List.length_cons, Nat.mul_add]
    omega
theorem anBytes_len {a : An} (h : WfA a) (hm : mayAn a = true) : (anBytes a).length ≤ 500000 := by
  obtain ⟨m1, m2, m3, m4, m5, m6⟩ := mayAn_ok hm
  have u1 := Lib.uvarint_length64 (show a.err.toNat < 18446744073709551616 by have := h.err; omega)
  have u2 := Lib.uvarint_length64 (show a.doc.toNat < 18446744073709551616 by have := h.doc; omega)
  have u3 := Lib.uvarint_length64 (show a.rev.toNat < 18446744073709551616 by omega)
  have u4 := Lib.uvarint_length64 (show a.whole.toNat < 18446744073709551616 by cases a.whole <;> decide)
  have u5 := Lib.uvarint_length64 (show a.text.length < 18446744073709551616 by have := h.text; omega)
  have u6 := Lib.uvarint_length64 (show a.ops.length < 18446744073709551616 by have := h.nops; omega)
  have u7 := Lib.uvarint_length64 (show a.seats.length < 18446744073709551616 by omega)
  have f1 := flat_len (f := chBytes) (m := 10) fun c hc => chBytes_len (m3 c hc)
  have f2 := flat_len (f := oprBytes) (m := 20000) fun o ho => oprBytes_len (h.ops o ho) (m4 o ho)
  have f3 := flat_len (f := stBytes) (m := 30) fun s hs => stBytes_len (h.seats s hs) (m6 s hs)
  have n1 := h.text
  have n2 := h.nops
  unfold anBytes
  simp only [List.length_append]
  omega
end Go.Proofs.YtciojggkcmdjiaaDoor
