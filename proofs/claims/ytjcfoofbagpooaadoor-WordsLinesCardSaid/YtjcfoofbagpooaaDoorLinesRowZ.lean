/-
  WordsLines: the lines that words.Head gives are the block's own: proved of every block, under no condition but the row's own cells (the listed package-level variables as the program's text lays them).
-/
import Derived.Test.YtjcfoofbagpooaaDoorCards
import Derived.Test.YtjcfoofbagpooaaDoorTie
import Derived.Test.YtjcfoofbagpooaaDoorLaw4Z
import Derived.Test.YtjcfoofbagpooaaDoorAliveZ
import Derived.Test.YtjcfoofbagpooaaDoorLib4Z
import Derived.Test.YtjcfoofbagpooaaDoorMach3
import Derived.Test.YtjcfoofbagpooaaDoorMach2
import Derived.Lib.SmallJoins
import Derived.Deep.DeepHandedRow
import Derived.Deep.Fields
import Derived.Lay
namespace Go.Proofs.YtjcfoofbagpooaaDoor.lines
open Go Go.Joins Go.ChangeShapes Go.WideShapes Go.ChangeAt Go.RowKit Go.Deep Go.Mir Go.Mif Go.Mig

section
variable {W0 : World}
noncomputable def gAlive (ds : List Arg) : Option Value :=
  match ds with
  | [] => some (.bool true)
  | _ => none
theorem alive_pure (hM : HasM W0) : PureDec Tryd.prog W0 6 [] gAlive := by
  intro ds v h
  unfold gAlive at h
  split at h
  · cases h
    refine ⟨rfl, fun w args' hold hsz hd => ?_⟩
    cases hd
    exact alive14 (maxLen_at hM hold)
  · cases h
noncomputable def lHooks : Hooks := fun n => match n with
  | 6 => some (hDec [] gAlive)
  | 22 => some (hDec [some 1, some 1] gIdxB)
  | 23 => some (hDec [some 1, some 1] gPre)
  | 77 => some (hDec [none, none] gIdxS)
  | _ => none
theorem lHooks_kept : HookKept lHooks := by
  intro f h hf args S v S' e
  unfold lHooks at hf
  split at hf <;> first | (cases hf; exact hDec_kept e) | cases hf
theorem lHooks_ok (hM : HasM W0) : HookOk Tryd.prog W0 lHooks := by
  intro f h hf args S v S' e ρ w args' hR hO hA
  unfold lHooks at hf
  split at hf
  · cases hf; exact hDec_ok tReady Tryd.func6 rfl (alive_pure hM) e hR hO hA
  · cases hf; exact hDec_ok tReady Tryd.func22 rfl (idxB_pure hM) e hR hO hA
  · cases hf; exact hDec_ok tReady Tryd.func23 rfl pre_pure e hR hO hA
  · cases hf; exact hDec_ok tReady Tryd.func77 rfl (idxS_pure hM) e hR hO hA
  · cases hf
noncomputable def gLaw (ds : List Arg) : Option Value :=
  match ds with
  | [.s n cs] => match byteCells cs with
    | some l => bif Nat.beq n l.length then some (.bool true) else none
    | none => none
  | _ => none
theorem law_pure (hM : HasM W0) : PureDec Tryd.prog W0 4 [some 1] gLaw := by
  refine pureDec_of tReady (lHooks_ok hM) lHooks_kept (Nat.le_of_ble_eq_true (by kernel_rfl)) Tryd.func4 rfl (by decide) (fun sz hsz => ?_) (fun ds v h => ?_) ?_
  · simp at hsz; subst hsz; exact ⟨5, by kernel_rfl⟩
  · unfold gLaw at h
    split at h
    · split at h
      · obtain ⟨_, h⟩ := cond_some' h; cases h; rfl
      · cases h
    · cases h
  · intro ds v h S xs hH hf hn
    unfold gLaw at h
    split at h
    · rename_i n cs
      split at h
      · rename_i l hl
        obtain ⟨hb, h⟩ := cond_some' h
        cases h
        obtain rfl := Nat.eq_of_beq_eq_true hb
        obtain rfl := byteCells_eq hl
        cases hH with
        | cons h1 t =>
          cases t
          have hS : S.next ≤ 1073000000 := Nat.le_trans hn (Nat.le_of_ble_eq_true (by kernel_rfl))
          obtain ⟨w, S', hev, rfl⟩ := lines_ev lHooks rfl ⟨_, rfl, fun S => rfl⟩ rfl rfl rfl rfl rfl rfl rfl rfl S _ l (isB_of h1) ⟨hf, hS⟩
          exact ⟨S', hev⟩
      · cases h
    · cases h
end

theorem own : ownKnob Tryd.prog.godebug = none := by kernel_rfl
theorem laidOut : laidOutB Tryd.prog = true := by kernel_rfl
theorem readable : (Tryd.f4.params.toList.all fun t => Tryd.prog.readableRec t && decide (t < Tryd.prog.types.size)) = true := by kernel_rfl

set_option maxRecDepth 100000 in
theorem contract (H : Type) (enc : TypeId × Value → H) (W : World) (base : Nat) (args : Array Value) (ds gs : List (DataW H)) (before : List MemPlace) (hM : HasM W)
    (hval : ∀ (j : Nat) t v, Tryd.f4.params[j]? = some t → args[j]? = some v → Value.okWide Tryd.prog W .any base t v)
    (hW : DataW.Whole enc Tryd.prog Tryd.f4.params.toList Rows.wordsLinesSpec.vars false W args.toList ds gs before) :
    Calls Tryd.prog 4 args W fun e W' => ∃ v, e = .returned v ∧ Rows.wordsLinesSpec.post enc Tryd.prog Tryd.f4 false true false false W args v W' := by
  have hW' := hW
  obtain ⟨p, q, hA0, hV, rfl, hfz, hnd⟩ := hW
  have hA : DataW.TrodAll enc Tryd.prog W 0 (fun _ => true) true Tryd.f4.params.toList args.toList ds p := hA0
  rw [Tryd.params4] at hA hval
  obtain ⟨v0, vs0, d0, ds0, p0, q0, hargs, rfl, rfl, h0, r0⟩ := trodAll_cons hA
  obtain ⟨rfl, rfl, rfl⟩ := trodAll_nil r0
  obtain rfl : args = #[v0] := by cases args; simp_all
  obtain ⟨a, len, cap, rfl⟩ := okWide_slice Tryd.underlying23 (hval 0 23 v0 rfl rfl)
  obtain ⟨fuel, hf⟩ := h0
  obtain ⟨l, hd⟩ := dec_bytes (v := .slice a len cap) Tryd.underlying23 Tryd.underlying5 (by kernel_rfl) (by simpa [Value.cells] using hf)
  obtain ⟨_, hcalls⟩ := law_pure hM [.s l.length (cellsOfBytes l)] (.bool true) (by unfold gLaw; simp only [byteCells_of, Nat.beq_refl, cond_true])
  refine (hcalls W [.slice a len cap] (fun _ _ => rfl) (Nat.le_refl _) (.cons hd .nil)).mono fun e W' ⟨he, hbel⟩ => ?_
  subst he
  exact ⟨_, rfl, law_post hW' rfl laidOut readable rfl Tryd.underlying4 rfl hbel⟩

noncomputable def wit : Array Value := #[.slice none 0 0]
theorem laid_met (os : Os) : laidMet Tryd.prog Rows.wordsLinesRow.laid ((World.laidAll Tryd.prog os Rows.wordsLinesRow.laid).forCall (fun _ _ => 0) ⟨#[], wit, []⟩).memory :=
  laidMet_laidAll _ (by kernel_rfl) (by kernel_rfl)
theorem reads (os : Os) {H : Type} (enc : TypeId × Value → H) : ∃ places, DataW.whole enc Tryd.prog ((World.laidAll Tryd.prog os Rows.wordsLinesRow.laid).forCall (fun _ _ => 0) ⟨#[], wit, []⟩).memory Tryd.f4.params.toList Rows.wordsLinesSpec.vars false wit.toList 8 =
    some ([.nil], [], places) :=
  ⟨[], by kernel_rfl⟩

set_option maxRecDepth 100000 in
theorem lifted (os : Os) (started : os.Started) (H : Type) (enc : TypeId × Value → H) (F : Stop.Interp) :
    ReturnsInHanded {} Tryd.checked os 4 .any ((OpenSpec.ofChange Rows.wordsLinesSpec).preRow enc Tryd.prog Tryd.f4 Rows.wordsLinesRow.domain false Rows.wordsLinesRow.laid) (((OpenSpec.ofChange Rows.wordsLinesSpec).at F).post enc Tryd.prog Tryd.f4 false true false false) := by
  obtain ⟨places, hx⟩ := reads os enc
  refine returnsInHanded_of_row (C := Tryd.checked) (s := OpenSpec.ofChange Rows.wordsLinesSpec) own started (by kernel_rfl) Tryd.func4
    (witness_row_at (enc := enc) (C := Tryd.checked) false (World.laidAll Tryd.prog os Rows.wordsLinesRow.laid) wit (World.laidAll_os _ _ _) (by kernel_rfl) (by kernel_rfl) (by kernel_rfl)
      (OpenSpec.preRow_of_cond 8 hx (by kernel_rfl) (fun k hk => by cases hk) (by kernel_rfl) (laid_met os))) ?_
  intro W base args ds gs before hval hW _ _ _ hL hsh _
  exact contract H enc W base args ds gs before (Tryd.laysM143.s1_3 W hsh) hval hW

theorem said : Rows.WordsLinesSaid :=
  OpenClaim.holds_of_cond 4 Tryd.f4 rfl rfl rfl rfl rfl rfl rfl ⟨rfl, rfl, rfl, rfl, rfl⟩ rfl rfl rfl rfl rfl (by kernel_rfl) Tryd.func4 (by kernel_rfl)
    (of_decide_eq_true (by kernel_rfl)) (by unfold Func.isWrapper; first | (rw [if_pos (by decide +kernel)]; kernel_rfl) | (rw [if_neg (by decide +kernel)]; exact ⟨rfl, rfl⟩))
    (fun os started H enc _ F => by rw [OpenClaim.pre_eq_preRow]; exact lifted os started H enc F)

theorem plain (f : FuncId) (fn : Func) (hf : Tryd.pinned.checked.prog.funcNamed "euphroe/euphroelaw14.WordsLines" = some f) (hfn : Tryd.pinned.checked.prog.funcs[f]? = some fn) :
    true = Tryd.pinned.checked.prog.looks [] ∧ ∀ (j : Nat) t, fn.params[j]? = some t → Tryd.pinned.checked.prog.wantsStandIn t = false := by
  obtain rfl : f = 4 := Option.some.inj ((show Tryd.prog.funcNamed "euphroe/euphroelaw14.WordsLines" = some 4 by kernel_rfl).symm.trans hf) |>.symm
  obtain rfl : fn = Tryd.f4 := (Option.some.inj (Tryd.func4.symm.trans hfn)).symm
  refine ⟨by kernel_rfl, fun j t ht => ?_⟩
  rw [Tryd.params4] at ht
  obtain rfl : t = 23 := by simpa using Array.mem_of_getElem? ht
  exact (show Tryd.prog.wantsStandIn 23 = false by kernel_rfl)

/-- The card. -/
theorem card : Rows.WordsLinesCardSaid :=
  Claim7.holds_tied_plain_at .later [] _ _ _ _ said (fun _ h => by cases h) (by kernel_rfl) (fun _ h => by cases h) wordsLines_row_tie rfl ⟨rfl, rfl⟩ (by kernel_rfl) rfl plain (by kernel_rfl)
end Go.Proofs.YtjcfoofbagpooaaDoor.lines
