/- SymwNobody: the walk: true at every event. -/
import Derived.Test.YteheaihappcgaaaGreatDoorAliveZ
import Derived.WalkKit
namespace Go.Mir
open Go Go.RowKit Go.Proofs Go.Mif
noncomputable section

def nFar (h a b : ByteArray) : Bool := (decide (700 < (a.size : Int)) || decide (700 < (b.size : Int))) || decide (100 < (h.size : Int))

set_option maxRecDepth 100000 in
theorem nFar_walk (k i u : Int) (h a b : ByteArray) (w : World) :
    Calls Tryz.prog 7 #[.agg #[.int .i64 k, .int .i64 i, .int .i64 u, .string h, .string a, .string b]] w fun e w' => e = .returned (.bool (nFar h a b)) ∧ Below w.heap.size w w' := by
  go_enter Tryz.func7, Tryz.ntmps7
  go_wp2
  all_goals go_ret
  all_goals refine ⟨?_, by repeat (first | exact Below.refl _ _ | apply Below.drew | refine Below.alloc ?_ (Nat.le_refl _) _)⟩
  all_goals simp_all [nFar]

def nFarG (args : List Value) : Option Value :=
  match args with
  | [.agg ⟨[.int .i64 _, .int .i64 _, .int .i64 _, .string h, .string a, .string b]⟩] => some (.bool (nFar h a b))
  | _ => none
def nAliveG (args : List Value) : Option Value :=
  match args with
  | [] => some (.bool true)
  | _ => none
theorem nFarG_pure : PureFn Tryz.prog 7 nFarG := by
  intro args v h
  unfold nFarG at h
  split at h
  · cases h
    exact ⟨rfl, rfl, fun w => nFar_walk _ _ _ _ _ _ w⟩
  · cases h
theorem nAliveG_pure : PureFn Tryz.prog 8 nAliveG := by
  intro args v h
  unfold nAliveG at h
  split at h
  · cases h
    exact ⟨rfl, rfl, fun w => tAlive w⟩
  · cases h

def nHooks : Hooks := fun n => match n with
  | 7 => some (hPure nFarG)
  | 8 => some (hPure nAliveG)
  | _ => none
theorem nHooks_kept : HookKept nHooks := by
  intro f h hf args S v S' e
  unfold nHooks at hf
  split at hf
  · cases hf; exact hPure_kept e
  · cases hf; exact hPure_kept e
  · cases hf
theorem nHooks_ok (W0 : World) : HookOk Tryz.prog W0 nHooks := by
  intro f h hf args S v S' e ρ w args' hR _ hA
  unfold nHooks at hf
  split at hf
  · cases hf; exact hPure_ok Tryz.func7 rfl tNames nFarG_pure e hR hA
  · cases hf; exact hPure_ok Tryz.func8 rfl tNames nAliveG_pure e hR hA
  · cases hf

noncomputable def codeFst : Code → Code
  | .seq a _ => a
  | c => c
def codeSnd : Code → Code
  | .seq _ b => b
  | c => c
noncomputable def nRest1 : Code := codeSnd (Tryz.f5.body.getD .skip)
noncomputable def nRest2 : Code := codeSnd nRest1
def nX (k i u : Int) (h a b : ByteArray) : Value := .agg ⟨[.int .i64 k, .int .i64 i, .int .i64 u, .string h, .string a, .string b]⟩
def nS : St := (Mir.start Tryz.prog).push (.cells [] 26 false)
def nS1 (k i u : Int) (h a b : ByteArray) : St := (Mir.start Tryz.prog).push (.cells [.int .i64 k, .int .i64 i, .int .i64 u, .string h, .string a, .string b] 26 false)
def nE1 (k i u : Int) (h a b : ByteArray) : Env := ((Env.ofArgs [nX k i u h a b] 46).set 1 (.pointer (some ⟨(Mir.start Tryz.prog).next, 0, none⟩))).set 2 (.bool false)
def nE2 (k i u : Int) (h a b : ByteArray) (c : Bool) : Env := ((nE1 k i u h a b).set 5 (nX k i u h a b)).set 6 (.bool c)

set_option maxRecDepth 1000000 in
theorem nRun1 (k i u : Int) (h a b : ByteArray) : runFnF (FP.fast Tryz.prog) nHooks 60 5 [nX k i u h a b] (Mir.start Tryz.prog) =
    leaveF (FP.fast Tryz.prog) Tryz.f5 (seqF (runCodeF (FP.fast Tryz.prog) nHooks 59) nRest1 (some ⟨.normal, nE1 k i u h a b, nS1 k i u h a b⟩)) := by kernel_rfl
noncomputable def nR1 : Code := codeFst (codeFst nRest1)
noncomputable def nC : Code := codeSnd (codeFst nRest1)
theorem nStep (E : Env) (S : St) : runCodeF (FP.fast Tryz.prog) nHooks 59 nRest1 E S = seqF (runCodeF (FP.fast Tryz.prog) nHooks 58) nRest2 (seqF (runCodeF (FP.fast Tryz.prog) nHooks 57) nC (runCodeF (FP.fast Tryz.prog) nHooks 57 nR1 E S)) := by kernel_rfl
set_option maxRecDepth 1000000 in
theorem nReg (k i u : Int) (h a b : ByteArray) : runCodeF (FP.fast Tryz.prog) nHooks 57 nR1 (nE1 k i u h a b) (nS1 k i u h a b) = some ⟨.normal, nE2 k i u h a b (nFar h a b), nS1 k i u h a b⟩ := by kernel_rfl
set_option maxRecDepth 1000000 in
theorem nRun3 (k i u : Int) (h a b : ByteArray) (c : Bool) : gave true (leaveF (FP.fast Tryz.prog) Tryz.f5 (seqF (runCodeF (FP.fast Tryz.prog) nHooks 58) nRest2 (seqF (runCodeF (FP.fast Tryz.prog) nHooks 57) nC (some ⟨.normal, nE2 k i u h a b c, nS1 k i u h a b⟩)))) = true := by
  cases c
  · kernel_rfl
  · kernel_rfl
theorem seqF_normal (rc : CodeFF) (b : Code) (E : Env) (S : St) : seqF rc b (some ⟨.normal, E, S⟩) = rc b E S := rfl

/-- True at every event. -/
theorem nWalk (k i u : Int) (h a b : ByteArray) (w : World) : Calls Tryz.prog 5 #[nX k i u h a b] w fun e w' => e = .returned (.bool true) ∧ Below w.heap.size w w' :=
  tReady.bool (n := 60) (nHooks_ok w) nHooks_kept rfl rfl (by rw [nRun1, seqF_normal, nStep, nReg]; exact nRun3 k i u h a b _)
end
end Go.Mir
