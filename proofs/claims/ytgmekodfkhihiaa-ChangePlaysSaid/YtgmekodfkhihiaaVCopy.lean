/-
  Votes: the contract of Copy (maps.Clone). (Printed by wip/gen_vcopy.py.)
-/
import Derived.Test.YtgmekodfkhihiaaVBelow
import Derived.Shelf.SlMaps.Clone
namespace Go.Proofs.Ytgmekodfkhihiaa
open Go.RowKit Go.Maps
set_option linter.unusedSimpArgs false
set_option linter.unusedVariables false

set_option maxHeartbeats 2000000 in
set_option maxRecDepth 100000 in
theorem maps_Clone {w : World} {g : Nat} {es : Array MapEntry} {clock : Nat} (hb : w.heap[g]? = some (.map es clock)) :
    Calls Try.prog 56 #[.map (some g)] w fun e w' => e = .returned (.map (some w.heap.size)) ∧ w' = w.alloc (.map es clock) := by
  have hq := fun w => run_eql_map_nil (P := Try.prog) w 97 _ _ (some g) Try.underlying97
  go_enter Try.func56, Try.ntmps56
  go_wp2
  rw [run_callFunc_extern Try.func59 (by kernel_rfl) (by kernel_rfl) (by kernel_rfl) (e := Extern.MapsClone.clone) (by kernel_rfl), run_maps_clone_sl w 97 hb]
  simp only [Result.andThen]
  rw [Oper.upon_value]
  go_wp2
  rw [run_typeAssert_map_sl _ 97 20 _ _ _ Try.underlying97]
  simp only [Result.andThen]
  rw [Oper.upon_value]
  go_wp2
  go_ret
  exact ⟨rfl, rfl⟩
theorem VMap.clone {w : World} {g : Nat} {v : Int} {t h : List Bool} (H : VMap w g v t h) : ∃ es clock, w.heap[g]? = some (.map es clock) ∧ VMap (w.alloc (.map es clock)) w.heap.size v t h := by
  obtain ⟨⟨D, ⟨es, clock, hb, F, hs, hD⟩, h1⟩, h2, h3, h4⟩ := H
  exact ⟨es, clock, hb, ⟨D, ⟨es, clock, (MapKept.heap_alloc w _).1, F, hs, hD⟩, h1⟩, h2, h3, h4⟩

set_option maxHeartbeats 3200000 in
theorem votes_Copy {w : World} {vb g : Nat} {n v : Int} {t h : List Bool} (H : VAt w vb g n v t h) :
    Calls Try.prog 42 #[.pointer (some ⟨vb, 0, none⟩)] w fun x w' => ∃ vb2 g2, x = .returned (.pointer (some ⟨vb2, 0, none⟩)) ∧ VAt w' vb2 g2 n v t h ∧ w.heap.size ≤ vb2 ∧ w.heap.size ≤ g2 ∧ Below w.heap.size w w' := by
  have HH := Lib.hid H
  clear H
  go_enter Try.func42, Try.ntmps42
  go_wp2_with fail
  refine (votes_none HH.out).mono ?_
  rintro x _ ⟨rfl, rfl⟩
  go_upto_region 3 with fail
  have hS : Holds [(vb, 0, .int .i64 n), (vb, 1, .map (some g))] w.drew := ⟨HH.out.k.cell 0, HH.out.k.cell 1, trivial⟩
  refine begin_D (T := Hold0) [] (by kernel_rfl) hS (fun _ => trivial) ?_
  refine take_S (v := ?v0a) 0 rfl (by kernel_rfl) (by kernel_rfl) (by kernel_rfl) (by kernel_rfl) (fun _ _ _ h => h) hS (fun _ => trivial) rfl (fun w' hq => ?h0a) ?_
  case h0a => go_simp; try with_reducible rfl
  try simp only [Act.put, List.setIfInBounds_toArray, List.set_cons_zero, List.set_cons_succ, List.getElem_toArray, List.getElem_cons_succ, List.getElem_cons_zero]
  refine take_S (v := ?v1a) 1 rfl (by kernel_rfl) (by kernel_rfl) (by kernel_rfl) (by kernel_rfl) (fun _ _ _ h => h) hS (fun _ => trivial) rfl (fun w' hq => ?h1a) ?_
  case h1a => go_simp; try with_reducible rfl
  try simp only [Act.put, List.setIfInBounds_toArray, List.set_cons_zero, List.set_cons_succ, List.getElem_toArray, List.getElem_cons_succ, List.getElem_cons_zero]
  refine take_S (v := ?v2a) 2 rfl (by kernel_rfl) (by kernel_rfl) (by kernel_rfl) (by kernel_rfl) (fun _ _ _ h => h) hS (fun _ => trivial) rfl (fun w' hq => ?h2a) ?_
  case h2a => go_simp; try with_reducible rfl
  try simp only [Act.put, List.setIfInBounds_toArray, List.set_cons_zero, List.set_cons_succ, List.getElem_toArray, List.getElem_cons_succ, List.getElem_cons_zero]
  refine take_S (v := ?v3a) 3 rfl (by kernel_rfl) (by kernel_rfl) (by kernel_rfl) (by kernel_rfl) (fun _ _ _ h => h) hS (fun _ => trivial) rfl (fun w' hq => ?h3a) ?_
  case h3a => obtain ⟨q0, q1, -⟩ := hq; change _ = some _ at q0; change _ = some _ at q1; go_simp; try with_reducible rfl
  try simp only [Act.put, List.setIfInBounds_toArray, List.set_cons_zero, List.set_cons_succ, List.getElem_toArray, List.getElem_cons_succ, List.getElem_cons_zero]
  refine take_S (v := ?v4a) 4 rfl (by kernel_rfl) (by kernel_rfl) (by kernel_rfl) (by kernel_rfl) (fun _ _ _ h => h) hS (fun _ => trivial) rfl (fun w' hq => ?h4a) ?_
  case h4a => go_simp; try with_reducible rfl
  try simp only [Act.put, List.setIfInBounds_toArray, List.set_cons_zero, List.set_cons_succ, List.getElem_toArray, List.getElem_cons_succ, List.getElem_cons_zero]
  refine take_S (v := ?v5a) 5 rfl (by kernel_rfl) (by kernel_rfl) (by kernel_rfl) (by kernel_rfl) (fun _ _ _ h => h) hS (fun _ => trivial) rfl (fun w' hq => ?h5a) ?_
  case h5a => go_simp; try with_reducible rfl
  try simp only [Act.put, List.setIfInBounds_toArray, List.set_cons_zero, List.set_cons_succ, List.getElem_toArray, List.getElem_cons_succ, List.getElem_cons_zero]
  refine take_S (v := ?v6a) 6 rfl (by kernel_rfl) (by kernel_rfl) (by kernel_rfl) (by kernel_rfl) (fun _ _ _ h => h) hS (fun _ => trivial) rfl (fun w' hq => ?h6a) ?_
  case h6a => go_simp; try with_reducible rfl
  try simp only [Act.put, List.setIfInBounds_toArray, List.set_cons_zero, List.set_cons_succ, List.getElem_toArray, List.getElem_cons_succ, List.getElem_cons_zero]
  refine take_S (v := ?v7a) 7 rfl (by kernel_rfl) (by kernel_rfl) (by kernel_rfl) (by kernel_rfl) (fun _ _ _ h => h) hS (fun _ => trivial) rfl (fun w' hq => ?h7a) ?_
  case h7a => obtain ⟨q0, q1, -⟩ := hq; change _ = some _ at q0; change _ = some _ at q1; go_simp; try with_reducible rfl
  try simp only [Act.put, List.setIfInBounds_toArray, List.set_cons_zero, List.set_cons_succ, List.getElem_toArray, List.getElem_cons_succ, List.getElem_cons_zero]
  refine one_D 8 rfl (by kernel_rfl) (fun KQ hK => ?_)
  go_simp
  obtain ⟨es, clock, hh, hV⟩ := (HH.out.m.below (Below.refl _ w).drew).clone
  refine (maps_Clone hh).mono ?_
  rintro x w1 ⟨rfl, rfl⟩
  have hb1 := (Below.refl w.drew.heap.size w.drew).alloc (Nat.le_refl _) (.map es clock)
  have hS1 : Holds [(vb, 0, .int .i64 n), (vb, 1, .map (some g))] (w.drew.alloc (.map es clock)) := Holds.below_ hS hb1
  have HV := Lib.hid hV
  have HB1 := Lib.hid hb1
  refine hK.out _ _ hS1 (fun _ => trivial) ?_
  clear hK hS hh hV hb1
  refine take_S (v := ?v9b) 9 rfl (by kernel_rfl) (by kernel_rfl) (by kernel_rfl) (by kernel_rfl) (fun _ _ _ h => h) hS1 (fun _ => trivial) rfl (fun w' hq => ?h9b) ?_
  case h9b => go_simp; try with_reducible rfl
  try simp only [Act.put, List.setIfInBounds_toArray, List.set_cons_zero, List.set_cons_succ, List.getElem_toArray, List.getElem_cons_succ, List.getElem_cons_zero]
  refine one_D 10 rfl (by kernel_rfl) (fun KQ hK => ?_)
  go_simp
  have hb2 := (Below.refl (w.drew.alloc (.map es clock)).heap.size (w.drew.alloc (.map es clock))).alloc (Nat.le_refl _) (.cells #[.int .i64 n, .map (some w.drew.heap.size)] 99)
  have kV := Blk.new (w.drew.alloc (.map es clock)) 99 #[.int .i64 n, .map (some w.drew.heap.size)]
  have hS2 := Holds.below_ hS1 hb2
  have HB2 := Lib.hid hb2
  have KV := Lib.hid kV
  refine hK.out _ _ hS2 (fun _ => trivial) ?_
  clear hK hS1 hb2 kV
  refine take_S (v := ?v11c) 11 rfl (by kernel_rfl) (by kernel_rfl) (by kernel_rfl) (by kernel_rfl) (fun _ _ _ h => h) hS2 (fun _ => trivial) rfl (fun w' hq => ?h11c) ?_
  case h11c => go_simp; try with_reducible rfl
  try simp only [Act.put, List.setIfInBounds_toArray, List.set_cons_zero, List.set_cons_succ, List.getElem_toArray, List.getElem_cons_succ, List.getElem_cons_zero]
  refine done_D (by kernel_rfl) ?_ _
  clear hS2
  go_wp2_with fail
  go_ret
  have hz : (w.drew.alloc (.map es clock)).heap.size = w.heap.size + 1 := World.size_alloc _ _
  have k := KV.out
  rw [hz] at k
  exact ⟨w.heap.size + 1, w.heap.size, rfl, ⟨k, HV.out.below HB2.out⟩, by omega, Nat.le_refl _, (Below.refl w.heap.size w).drew.trans ((HB1.out.trans (HB2.out.mono HB1.out.size)))⟩
end Go.Proofs.Ytgmekodfkhihiaa
