/- The law's own check at closed inputs runs through to true, in every world and in every order that Go leaves open. -/
import Derived.Test.YteheaihappcgaaaGreatDoorHookZ
import Derived.Test.YteheaihappcgaaaGreatDoorIndZ
import Derived.Test.YteheaihappcgaaaGreatDoorMach2
import Derived.Laws.Externs
namespace Go.Mir
open Go Go.RowKit Go.Proofs Go.Mif
noncomputable section

def tHooks : Hooks := fun n => match n with
  | 62 => some hClone
  | 59 => some (hIndex1 fun l c => idx1 c l 0)
  | 36 => some hHolds
  | _ => none

theorem tNames : NamesOk Tryz.prog := namesOk_of (by kernel_rfl)
theorem tReady : Ready Tryz.prog := ⟨tNames, by kernel_rfl, by kernel_rfl, by kernel_rfl, by kernel_rfl⟩

theorem tHooks_kept : HookKept tHooks := by
  intro f h hf args S v S' e
  unfold tHooks at hf
  split at hf
  · cases hf; exact hClone_kept e
  · cases hf; exact hIndex1_kept e
  · cases hf; exact hHolds_kept e
  · cases hf

theorem tClone (args : Array Value) (w : World) : (callFunc 62 args).run Tryz.prog w = ((Extern.MapsClone.clone args).run Tryz.prog w).andThen fun v w' => .ok (.value v) w' := by
  rw [run_callFunc_extern Tryz.func62 (by kernel_rfl) (by kernel_rfl) (by kernel_rfl) (e := Extern.MapsClone.clone) (by kernel_rfl)]

theorem tHooks_ok (W0 : World) : HookOk Tryz.prog W0 tHooks := by
  intro f h hf args S v S' e ρ w args' hR _ hA
  unfold tHooks at hf
  split at hf
  · cases hf; exact hClone_ok tClone e hR hA
  · cases hf
    exact hIndex1_ok Tryz.func59 rfl tNames (fun s c w => by
      have := Tryz.strings_Index_one s c w
      rw [idx1_eq] at this
      exact this) e hR hA
  · cases hf; exact hHolds_ok tNames e hR hA
  · cases hf

set_option maxRecDepth 1000000 in
theorem tAlive_run : gave true (runFnF (FP.fast Tryz.prog) tHooks 3000 8 [] (start Tryz.prog)) = true := by kernel_rfl

theorem tAlive (w : World) : Calls Tryz.prog 8 #[] w fun e w' => e = .returned (.bool true) ∧ Below w.heap.size w w' := tReady.bool (tHooks_ok w) tHooks_kept rfl rfl tAlive_run
end
end Go.Mir
