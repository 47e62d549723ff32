/- euphroelaw14's own check at closed inputs runs through to true. -/
import Derived.Test.YtjcfoofbagpooaaDoorHkZ
import Derived.Test.YtjcfoofbagpooaaDoorLib2Z
import Derived.Test.YtjcfoofbagpooaaDoorMach2
import Derived.Laws.Externs
namespace Go.Mig
open Go Go.Mir Go.Mif Go.RowKit Go.Proofs
noncomputable section
variable {W0 : World}
def HasM (W0 : World) : Prop := ∃ m, W0.cell? ⟨0, 0, none⟩ = some (.int .i64 m)

theorem idxSl_pure (hM : HasM W0) : PureDec Tryd.prog W0 82 [none, none] gIdxS := by
  intro ds v h
  unfold gIdxS at h
  split at h
  · rename_i a b
    obtain ⟨hc, h⟩ := cond_some' h
    cases h
    have hc := Nat.le_of_ble_eq_true hc
    refine ⟨rfl, fun w args' hold hsz hd => ?_⟩
    obtain ⟨x, y, rfl, hx, hy⟩ := decAll_two hd
    cases hx; cases hy
    obtain ⟨m0, hm⟩ := maxLen_at hM hold
    refine Calls.mono (Tryd.stringslite_Index a b m0 w (by omega) hm) ?_
    rintro e w' ⟨rfl, rfl⟩
    exact ⟨rfl, Below.refl _ _⟩
  · cases h
def gIdx1 (ds : List Arg) : Option Value :=
  match ds with
  | [.v (.string a), .v (.int .u8 (.ofNat c))] => some (.int .i64 (Lib.indexByte a.data.toList (UInt8.ofNat c)))
  | _ => none
theorem idx1_pure : PureDec Tryd.prog W0 85 [none, none] gIdx1 := by
  intro ds v h
  unfold gIdx1 at h
  split at h
  · rename_i a c
    cases h
    refine ⟨rfl, fun w args' hold hsz hd => ?_⟩
    obtain ⟨x, y, rfl, hx, hy⟩ := decAll_two hd
    cases hx; cases hy
    refine Calls.mono (Tryd.strings_IndexByte a _ w) ?_
    rintro e w' ⟨rfl, rfl⟩
    exact ⟨rfl, Below.refl _ _⟩
  · cases h

theorem tNames : NamesOk Tryd.prog := namesOk_of (by kernel_rfl)
theorem tReady : Ready Tryd.prog := ⟨tNames, by kernel_rfl, by kernel_rfl, by kernel_rfl, by kernel_rfl⟩

def aHooks : Hooks := fun n => match n with
  | 22 => some (hDec [some 1, some 1] gIdxB)
  | 23 => some (hDec [some 1, some 1] gPre)
  | 77 => some (hDec [none, none] gIdxS)
  | 82 => some (hDec [none, none] gIdxS)
  | 85 => some (hDec [none, none] gIdx1)
  | _ => none
theorem aHooks_kept : HookKept aHooks := by
  intro f h hf args S v S' e
  unfold aHooks at hf
  split at hf <;> first | (cases hf; exact hDec_kept e) | cases hf
theorem aHooks_ok (hM : HasM W0) : HookOk Tryd.prog W0 aHooks := by
  intro f h hf args S v S' e ρ w args' hR hO hA
  unfold aHooks at hf
  split at hf
  · cases hf; exact hDec_ok tReady Tryd.func22 rfl (idxB_pure hM) e hR hO hA
  · cases hf; exact hDec_ok tReady Tryd.func23 rfl pre_pure e hR hO hA
  · cases hf; exact hDec_ok tReady Tryd.func77 rfl (idxS_pure hM) e hR hO hA
  · cases hf; exact hDec_ok tReady Tryd.func82 rfl (idxSl_pure hM) e hR hO hA
  · cases hf; exact hDec_ok tReady Tryd.func85 rfl idx1_pure e hR hO hA
  · cases hf

set_option maxRecDepth 1000000 in
theorem alive14_run : gave true (runFnF (FP.fast Tryd.prog) aHooks 2000 6 [] (Mir.start Tryd.prog)) = true := by kernel_rfl
theorem alive14 {w : World} (hM : HasM w) : Calls Tryd.prog 6 #[] w fun e w' => e = .returned (.bool true) ∧ Below w.heap.size w w' := tReady.bool (aHooks_ok hM) aHooks_kept rfl rfl alive14_run
end
end Go.Mig
