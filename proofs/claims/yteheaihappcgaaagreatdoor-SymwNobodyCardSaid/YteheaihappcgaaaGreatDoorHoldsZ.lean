/- knows.Store.Holds at a map that is not nil: a new slice of as many texts as the map has keys; nothing that was there has turned. -/
import Derived.Test.YteheaihappcgaaaGreatDoorIterZ
import Derived.WalkKit
import Derived.WalkSpells
import Derived.WalkLawsBesides
import Derived.Outline
namespace Go.Proofs
open Go.Shelf Go.RowKit Go.Maps Go.Sort

set_option maxRecDepth 100000 in
theorem Tryz.store_ok (w : World) (sb so b : Nat) (hc : w.cell? ⟨sb, so, none⟩ = some (.map (some b))) :
    Calls Tryz.prog 39 #[.pointer (some ⟨sb, so, none⟩)] w fun e w' => e = .returned (.bool true) ∧ w = w' := by
  have hm := fun w : World => run_neq_map_nil (P := Tryz.prog) w 66 _ _ (some b) Tryz.underlying66
  go_enter Tryz.func39, Tryz.ntmps39
  go_wp2
  go_ret
  exact ⟨rfl, rfl⟩

set_option maxRecDepth 100000 in
set_option maxHeartbeats 1000000 in
theorem Tryz.holds_walk {H : Type} (sb so b nn : Nat) (D0 : DataW H) (R : Value → Option (DataW H × List MemPlace)) (w : World) (hc : w.cell? ⟨sb, so, none⟩ = some (.map (some b)))
    (hown : w.ownsMap Tryz.prog 9 R b nn D0) (hmax : Maps.size D0 ≤ maxLen) (hbytes : Maps.size D0 * 16 ≤ 140737488355328) :
    Calls Tryz.prog 36 #[.pointer (some ⟨sb, so, none⟩)] w fun e w' => ∃ (v : Value) (ss : List (List UInt8)), e = .returned v ∧ ss.Perm (strKeys D0) ∧
      w'.ownsRow w.heap.size 9 1 v ss.length ((ss.mergeSort (fun x y => decide (x ≤ y))).map encStr) ∧ Below w.heap.size w w' := by
  refine (callsIn_wide (n := 6)).1 ?_
  have hfK : Fence.wide.fn 56 := trivial
  have hfS : Fence.wide.fn 55 := trivial
  have hfO : Fence.wide.fn 39 := trivial
  refine callsIn_of_wp Tryz.func36 rfl trivial ?_ rfl
  simp only [Tryz.ntmps36, List.size_toArray, List.length_cons, List.length_nil, Nat.reduceAdd, Nat.reduceSub, Array.replicate_succ, Array.replicate_zero, List.push_toArray, List.append_toArray, List.nil_append, List.cons_append]
  gi_wp2_with (first
    | (gi_at_call 39; refine (callsIn_wide.2 (Tryz.store_ok w sb so b hc)).mono ?_; rintro e w' ⟨rfl, rfl⟩)
    | (gi_at_call 56; refine (Tryz.maps_Keys_56 _ _).mono ?_; rintro e w' ⟨rfl, rfl⟩)
    | (gi_at_call 55; ((refine (Tryz.slices_Sorted_keys_55_56 b nn D0 R w hown hmax hbytes).mono ?_; rintro e w1 ⟨v, ss, rfl, hS, hrow, hnil, hb⟩))))
  go_ret
  exact ⟨v, ss, rfl, hS, ownsRow_base_a hrow (by simp), ((Below.refl _ w).alloc (Nat.le_refl _) _).trans (hb.mono (by simp))⟩
end Go.Proofs
