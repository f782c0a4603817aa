/-
  Append, Cut, Trim at any op: one contract each, for a log and for the reference's; both logs side by side in memory.
-/
import Derived.Test.YtmoifhoncanjjaaTells
import Derived.Test.YtmoifhoncanjjaaOps
namespace Go.Proofs.Ytmoifhoncanjjaa
open Go.RowKit
set_option linter.unusedSimpArgs false
set_option linter.unusedVariables false

section
variable {w w' : World} {S S' : Nat → Prop} {b : Nat} {m : Int} {es : List Ent}
theorem LogAt.weak (h : LogAt w S b m es) (hs : ∀ k, S k → k < w.heap.size → S' k) (hb : ¬ S' b) : LogAt w S' b m es := by
  obtain ⟨p, c, hB, hE, hS⟩ := h
  exact ⟨p, c, hB, hE.keep (fun _ _ _ => rfl) hs, hb⟩
theorem LogAt.lt (h : LogAt w S b m es) : b < w.heap.size := by obtain ⟨p, c, hB, -⟩ := h; exact hB.lt
theorem RLog.lt (h : RLog w S b m es) : b < w.heap.size := by obtain ⟨p, c, hB, -⟩ := h; exact hB.lt
theorem LogAt.nS (h : LogAt w S b m es) : ¬ S b := by obtain ⟨p, c, -, -, hS⟩ := h; exact hS
theorem RLog.nS (h : RLog w S b m es) : ¬ S b := by obtain ⟨p, c, -, -, hS⟩ := h; exact hS
theorem More.of (hz : ∀ k, S k → k < w.heap.size) (k : Nat) (hk : S k) : More S w w' k := .inl ⟨hk, hz k hk⟩
theorem More.nb (hS : ¬ S b) (hb : b < w.heap.size) : ¬ More S w w' b := by
  rintro (h | h)
  · exact hS h.1
  · omega
/-- What a call leaves: the log of block b, so; nothing else old is turned. -/
def Did (S : Nat → Prop) (b : Nat) (m : Int) (es : List Ent) (w w' : World) : Prop := LogAt w' (More S w w') b m es ∧ Ext (fun x => x = b) w w'
def RDid (S : Nat → Prop) (b : Nat) (m : Int) (es : List Ent) (w w' : World) : Prop := RLog w' (More S w w') b m es ∧ Ext (fun x => x = b) w w'
theorem Did.stay (h : LogAt w S b m es) (hz : ∀ k, S k → k < w.heap.size) (hb : Below w.heap.size w w') : Did S b m es w w' :=
  ⟨(h.below hb).weak (fun k hk _ => More.of hz k hk) (More.nb h.nS h.lt), Ext.of_below _ hb⟩
theorem RDid.stay (h : RLog w S b m es) (hz : ∀ k, S k → k < w.heap.size) (hb : Below w.heap.size w w') : RDid S b m es w w' :=
  ⟨(h.below hb).weak (fun k hk _ => More.of hz k hk) (More.nb h.nS h.lt), Ext.of_below _ hb⟩
end

def appL (es : List Ent) (e : Ent) : List Ent := if es.length < 64 then es ++ [e] else es
def appOp (m : Int) (n : Nat) : Int := if n < 64 then m + n + 1 else 0
def appR (n : Nat) : Int := if n < 64 then 0 else 7
def okOp (m : Int) (n : Nat) (op : Int) : Prop := m ≤ op ∧ op ≤ m + n
instance (m : Int) (n : Nat) (op : Int) : Decidable (okOp m n op) := by unfold okOp; infer_instance
def cutM (m : Int) (n : Nat) (op : Int) : Int := if okOp m n op then op else m
def cutL (m : Int) (es : List Ent) (op : Int) : List Ent := if okOp m es.length op then es.drop (op - m).toNat else es
def trimL (m : Int) (es : List Ent) (op : Int) : List Ent := if okOp m es.length op then es.take (op - m).toNat else es
theorem appL_ok {m : Int} {es : List Ent} {e : Ent} (h : LogOk m es) (he : e.cmd.length ≤ 140737488355328) : LogOk m (appL es e) := by
  unfold appL
  split
  · refine ⟨fun x hx => ?_, by rw [List.length_append, List.length_singleton]; omega, h.low, h.high⟩
    rcases List.mem_append.1 hx with hx | hx
    · exact h.fits x hx
    · rw [List.mem_singleton.1 hx]; exact he
  · exact h
theorem cutL_ok {m : Int} {es : List Ent} (h : LogOk m es) (op : Int) (hm : m ≤ 4611686018427380000) : LogOk (cutM m es.length op) (cutL m es op) := by
  have := h.len
  have := h.low
  unfold cutM cutL
  split
  · rename_i ho
    exact ⟨h.fits.drop _, by rw [List.length_drop]; omega, by have := ho.1; omega, by have := ho.2; omega⟩
  · exact h
theorem cutM_le {m : Int} {n : Nat} (op : Int) (hn : n ≤ 64) : cutM m n op ≤ m + 64 := by
  unfold cutM
  split
  · rename_i ho; have := ho.2; omega
  · omega
theorem trimL_ok {m : Int} {es : List Ent} (h : LogOk m es) (op : Int) : LogOk m (trimL m es op) := by
  have := h.len
  unfold trimL
  split
  · exact ⟨h.fits.take _, by rw [List.length_take]; omega, h.low, h.high⟩
  · exact h

section
variable {w : World} {S T : Nat → Prop} {b : Nat} {m op : Int} {es : List Ent} {e : Ent} {s : Value}
theorem log_App (hL : LogAt w S b m es) (ok : LogOk m es) (hz : ∀ k, S k → k < w.heap.size) (hs : CmdRd w T s e.cmd) (he : e.cmd.length ≤ 140737488355328) :
    Calls Try.prog 8 #[.pointer (some ⟨b, 0, none⟩), entVal e s] w fun x w' => x = .returned (.tuple #[.int .u64 (appOp m es.length), .int .i64 (appR es.length)]) ∧ Did S b m (appL es e) w w' := by
  unfold appL appOp appR
  by_cases h : es.length < 64
  · rw [if_pos h, if_pos h, if_pos h]
    exact log_Append hL ok hs he h
  · rw [if_neg h, if_neg h, if_neg h]
    obtain ⟨p, c, rfl⟩ := Rd.slice hs
    exact (log_Append_full hL (by have := ok.len; omega)).mono fun x w' ⟨h1, h2⟩ => ⟨h1, .stay hL hz h2⟩
theorem ref_App (hL : RLog w S b m es) (ok : LogOk m es) (hz : ∀ k, S k → k < w.heap.size) (hs : CmdN w T s e.cmd) (he : e.cmd.length ≤ 140737488355328) :
    Calls Try.prog 23 #[.pointer (some ⟨b, 0, none⟩), entVal e s] w fun x w' => x = .returned (.tuple #[.int .u64 (appOp m es.length), .int .i64 (appR es.length)]) ∧ RDid S b m (appL es e) w w' := by
  unfold appL appOp appR
  by_cases h : es.length < 64
  · rw [if_pos h, if_pos h, if_pos h]
    exact ref_Append hL ok.low ok.high h hs he
  · rw [if_neg h, if_neg h, if_neg h]
    obtain ⟨p, c, rfl⟩ := Rd.slice hs.1
    exact (ref_Append_full hL (by have := ok.len; omega)).mono fun x w' ⟨h1, h2⟩ => ⟨h1, .stay hL hz h2⟩
theorem op_three (m op : Int) (n : Nat) : m + n < op ∨ (op < m ∧ op ≤ m + n) ∨ ∃ k : Nat, k ≤ n ∧ op = m + k := by
  by_cases h1 : m + n < op
  · exact .inl h1
  · by_cases h2 : op < m
    · exact .inr (.inl ⟨h2, by omega⟩)
    · exact .inr (.inr ⟨(op - m).toNat, by omega, by omega⟩)
theorem okOp_k {n k : Nat} (h : k ≤ n) : okOp m n (m + k) := ⟨by omega, by omega⟩
theorem log_CutA (hL : LogAt w S b m es) (ok : LogOk m es) (hz : ∀ k, S k → k < w.heap.size) :
    Calls Try.prog 11 #[.pointer (some ⟨b, 0, none⟩), .int .u64 op] w fun x w' => x = .returned (.int .i64 (withinE m es.length op)) ∧ Did S b (cutM m es.length op) (cutL m es op) w w' := by
  unfold cutM cutL
  rcases op_three m op es.length with h | ⟨h1, h2⟩ | ⟨k, hk, rfl⟩
  · rw [if_neg (fun ho => by have := ho.2; omega), if_neg (fun ho => by have := ho.2; omega), withinE_none h]
    exact (log_Cut_none hL ok h).mono fun x w' ⟨h1, h2⟩ => ⟨h1, .stay hL hz h2⟩
  · rw [if_neg (fun ho => by have := ho.1; omega), if_neg (fun ho => by have := ho.1; omega), withinE_gone h1]
    exact (log_Cut_gone hL ok h2 h1).mono fun x w' ⟨h1, h2⟩ => ⟨h1, .stay hL hz h2⟩
  · rw [if_pos (okOp_k hk), if_pos (okOp_k hk), withinE_ok hk, show (m + k - m).toNat = k from by omega]
    exact log_Cut hL ok hk hz
theorem ref_CutA (hL : RLog w S b m es) (ok : LogOk m es) (hz : ∀ k, S k → k < w.heap.size) :
    Calls Try.prog 25 #[.pointer (some ⟨b, 0, none⟩), .int .u64 op] w fun x w' => x = .returned (.int .i64 (withinE m es.length op)) ∧ RDid S b (cutM m es.length op) (cutL m es op) w w' := by
  unfold cutM cutL
  rcases op_three m op es.length with h | ⟨h1, h2⟩ | ⟨k, hk, rfl⟩
  · rw [if_neg (fun ho => by have := ho.2; omega), if_neg (fun ho => by have := ho.2; omega)]
    exact (ref_Cut_no hL ok.len (by rw [withinE_none h]; decide)).mono fun x w' ⟨h1, h2⟩ => ⟨h1, .stay hL hz h2⟩
  · rw [if_neg (fun ho => by have := ho.1; omega), if_neg (fun ho => by have := ho.1; omega)]
    exact (ref_Cut_no hL ok.len (by rw [withinE_gone h1]; decide)).mono fun x w' ⟨h1, h2⟩ => ⟨h1, .stay hL hz h2⟩
  · rw [if_pos (okOp_k hk), if_pos (okOp_k hk), withinE_ok hk, show (m + k - m).toNat = k from by omega]
    exact ref_Cut hL ok.len hk
theorem log_TrimA (hL : LogAt w S b m es) (ok : LogOk m es) (hz : ∀ k, S k → k < w.heap.size) :
    Calls Try.prog 12 #[.pointer (some ⟨b, 0, none⟩), .int .u64 op] w fun x w' => x = .returned (.int .i64 (withinE m es.length op)) ∧ Did S b m (trimL m es op) w w' := by
  unfold trimL
  rcases op_three m op es.length with h | ⟨h1, h2⟩ | ⟨k, hk, rfl⟩
  · rw [if_neg (fun ho => by have := ho.2; omega), withinE_none h]
    exact (log_Trim_none hL ok h).mono fun x w' ⟨h1, h2⟩ => ⟨h1, .stay hL hz h2⟩
  · rw [if_neg (fun ho => by have := ho.1; omega), withinE_gone h1]
    exact (log_Trim_gone hL ok h2 h1).mono fun x w' ⟨h1, h2⟩ => ⟨h1, .stay hL hz h2⟩
  · rw [if_pos (okOp_k hk), withinE_ok hk, show (m + k - m).toNat = k from by omega]
    exact log_Trim hL ok hk hz
theorem ref_TrimA (hL : RLog w S b m es) (ok : LogOk m es) (hz : ∀ k, S k → k < w.heap.size) :
    Calls Try.prog 26 #[.pointer (some ⟨b, 0, none⟩), .int .u64 op] w fun x w' => x = .returned (.int .i64 (withinE m es.length op)) ∧ RDid S b m (trimL m es op) w w' := by
  unfold trimL
  rcases op_three m op es.length with h | ⟨h1, h2⟩ | ⟨k, hk, rfl⟩
  · rw [if_neg (fun ho => by have := ho.2; omega)]
    exact (ref_Trim_no hL ok.len (by rw [withinE_none h]; decide)).mono fun x w' ⟨h1, h2⟩ => ⟨h1, .stay hL hz h2⟩
  · rw [if_neg (fun ho => by have := ho.1; omega)]
    exact (ref_Trim_no hL ok.len (by rw [withinE_gone h1]; decide)).mono fun x w' ⟨h1, h2⟩ => ⟨h1, .stay hL hz h2⟩
  · rw [if_pos (okOp_k hk), withinE_ok hk, show (m + k - m).toNat = k from by omega]
    exact ref_Trim hL ok.len hk
end

/-- A log and the reference's, side by side; what they lead to lies in S. -/
structure PS (n0 : Nat) (S : Nat → Prop) (w : World) (b rb : Nat) (m1 : Int) (es1 : List Ent) (m2 : Int) (es2 : List Ent) : Prop where
  hb : n0 ≤ b
  hrb : n0 ≤ rb
  ne : b ≠ rb
  z0 : n0 ≤ w.heap.size
  L : LogAt w S b m1 es1
  R : RLog w S rb m2 es2
  lo : ∀ j, S j → n0 ≤ j
  hi : ∀ j, S j → j < w.heap.size
section
variable {n0 b rb : Nat} {S : Nat → Prop} {w w' : World} {m1 m2 m1' m2' : Int} {es1 es2 es1' es2' : List Ent}
theorem PS.below (h : PS n0 S w b rb m1 es1 m2 es2) (hb : Below w.heap.size w w') : PS n0 S w' b rb m1 es1 m2 es2 :=
  ⟨h.hb, h.hrb, h.ne, Nat.le_trans h.z0 hb.size, h.L.below hb, h.R.below hb, h.lo, fun j hj => Nat.lt_of_lt_of_le (h.hi j hj) hb.size⟩
theorem PS.log (h : PS n0 S w b rb m1 es1 m2 es2) (hd : Did S b m1' es1' w w') : PS n0 (More S w w') w' b rb m1' es1' m2 es2 :=
  ⟨h.hb, h.hrb, h.ne, Nat.le_trans h.z0 hd.2.size, hd.1, (h.R.ext hd.2 (fun j hj _ he => h.L.nS (he ▸ hj)) (fun e => h.ne e.symm)).weak (fun k hk _ => More.of h.hi k hk) (More.nb h.R.nS h.R.lt),
   fun j hj => by rcases hj with hj | hj; exact h.lo j hj.1; have := h.z0; omega, More.lt hd.2.size⟩
theorem PS.ref (h : PS n0 S w b rb m1 es1 m2 es2) (hd : RDid S rb m2' es2' w w') : PS n0 (More S w w') w' b rb m1 es1 m2' es2' :=
  ⟨h.hb, h.hrb, h.ne, Nat.le_trans h.z0 hd.2.size, (h.L.ext hd.2 (fun j hj _ he => h.R.nS (he ▸ hj)) h.ne).weak (fun k hk _ => More.of h.hi k hk) (More.nb h.L.nS h.L.lt), hd.1,
   fun j hj => by rcases hj with hj | hj; exact h.lo j hj.1; have := h.z0; omega, More.lt hd.2.size⟩
/-- What both do not lead to may be turned. -/
theorem PS.spoil {M : Nat → Prop} (h : PS n0 S w b rb m1 es1 m2 es2) (hE : Ext M w w') (hM : ∀ j, M j → ¬ S j ∧ j ≠ b ∧ j ≠ rb) : PS n0 S w' b rb m1 es1 m2 es2 :=
  ⟨h.hb, h.hrb, h.ne, Nat.le_trans h.z0 hE.size, h.L.ext hE (fun j hj _ he => (hM j he).1 hj) (fun he => (hM b he).2.1 rfl), h.R.ext hE (fun j hj _ he => (hM j he).1 hj) (fun he => (hM rb he).2.2 rfl), h.lo, fun j hj => Nat.lt_of_lt_of_le (h.hi j hj) hE.size⟩
/-- A new log takes the log's place. -/
theorem PS.copy {b2 : Nat} (h : PS n0 S w b rb m1 es1 m2 es2) (hn : NewLog w b2 m1' es1' w') : PS n0 (fun j => j ≠ b2 ∧ More S w w' j) w' b2 rb m1' es1' m2 es2 := by
  obtain ⟨hL, h1, h2, hX⟩ := hn
  have l2 := h.R.lt
  have hn := h.z0
  have hz := hX.size
  refine ⟨by omega, h.hrb, by omega, by omega, hL.weak (fun j hj _ => ⟨by omega, .inr ⟨hj.1, by omega⟩⟩) (fun h => h.1 rfl), (h.R.below hX).weak (fun k hk _ => ⟨by have := h.hi k hk; omega, More.of h.hi k hk⟩) (fun hh => More.nb h.R.nS l2 hh.2), ?_, fun j hj => More.lt hz j hj.2⟩
  rintro j ⟨-, hj | hj⟩
  · exact h.lo j hj.1
  · omega
end
end Go.Proofs.Ytmoifhoncanjjaa
