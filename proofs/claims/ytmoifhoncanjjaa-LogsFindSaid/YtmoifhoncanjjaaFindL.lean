/-
  What LogsFind leans on: a log's Find and Trim, said of a log in new memory. Plain conditions: the log is in bounds.
-/
import Derived.Test.YtmoifhoncanjjaaFind
import Derived.Test.YtmoifhoncanjjaaKeepsW
namespace Go.Proofs.Ytmoifhoncanjjaa
open Go.RowKit

theorem lastN_congr {p q : Nat → Bool} : ∀ {n : Nat}, (∀ j, j < n → p j = q j) → lastN p n = lastN q n
  | 0, _ => rfl
  | n + 1, h => by simp only [lastN, h n (Nat.lt_succ_self n), lastN_congr fun j hj => h j (Nat.lt_succ_of_lt hj)]
theorem lastN_take {es : List Ent} {client req : Int} {k : Nat} (hk : k ≤ es.length) : lastN (hit (es.take k) client req) k = lastN (hit es client req) k :=
  lastN_congr fun j hj => by simp only [hit, List.getElem?_take, if_pos hj]
theorem foundOp_zero (k : Nat) : foundOp 0 k = k := by unfold foundOp; split <;> omega
theorem At_Find {W0 w : World} {b : Nat} {m client req : Int} {es : List Ent} (h : At W0 w b m es) (ok : LogOk m es) :
    Calls Try.prog 20 #[.pointer (some ⟨b, 0, none⟩), .int .u32 client, .int .u64 req] w fun x w' =>
      x = .returned (.tuple #[.int .u64 (foundOp m (lastN (hit es client req) es.length)), .bool (decide (0 < lastN (hit es client req) es.length))]) ∧ At W0 w' b m es := by
  obtain ⟨S, hL, hS⟩ := h.1
  refine (log_Find hL ok).mono ?_
  rintro x w' ⟨rfl, hX⟩
  exact ⟨rfl, h.below hX⟩
theorem At_trim {W0 w : World} {b k : Nat} {m op : Int} {es : List Ent} (h : At W0 w b m es) (ok : LogOk m es) (hk : k ≤ es.length) (ho : op = m + k) :
    Calls Try.prog 12 #[.pointer (some ⟨b, 0, none⟩), .int .u64 op] w fun x w' => x = .returned (.int .i64 0) ∧ At W0 w' b m (es.take k) := by
  subst ho
  refine (At_Trim h ok hk).mono ?_
  rintro x w' ⟨rfl, h, -⟩
  exact ⟨rfl, h⟩
end Go.Proofs.Ytmoifhoncanjjaa
