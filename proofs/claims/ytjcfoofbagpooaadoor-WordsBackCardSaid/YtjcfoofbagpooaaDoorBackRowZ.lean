/-
  WordsBack: a number's digits are read back, letters are lowered once and for all, a head cut at its end is a head: proved of every number, text and block, under no condition but the row's own cells (the listed package-level variables as the program's text lays them).
-/
import Derived.Test.YtjcfoofbagpooaaDoorCards
import Derived.Test.YtjcfoofbagpooaaDoorTie
import Derived.Test.YtjcfoofbagpooaaDoorLaw3Z
import Derived.Test.YtjcfoofbagpooaaDoorAliveZ
import Derived.Test.YtjcfoofbagpooaaDoorLib4Z
import Derived.Test.YtjcfoofbagpooaaDoorMach3
import Derived.Test.YtjcfoofbagpooaaDoorMach2
import Derived.Lib.SmallJoins
import Derived.Deep.DeepHandedRow
import Derived.Deep.Fields
import Derived.Lib.LaidTab
import Derived.Lay
namespace Go.Proofs.YtjcfoofbagpooaaDoor.back
open Go Go.Joins Go.ChangeShapes Go.WideShapes Go.ChangeAt Go.RowKit Go.Deep Go.Mir Go.Mif Go.Mig

section
variable {W0 : World}
noncomputable def gAlive (ds : List Arg) : Option Value :=
  match ds with
  | [] => some (.bool true)
  | _ => none
theorem alive_pure (hM : HasM W0) : PureDec Tryd.prog W0 6 [] gAlive := by
  intro ds v h
  unfold gAlive at h
  split at h
  · cases h
    refine ⟨rfl, fun w args' hold hsz hd => ?_⟩
    cases hd
    exact alive14 (maxLen_at hM hold)
  · cases h
noncomputable def lHooks : Hooks := fun n => match n with
  | 6 => some (hDec [] gAlive)
  | 19 => some (hDec [none, none, none] gPar)
  | 20 => some (hDec [none, none] gFmt)
  | 22 => some (hDec [some 1, some 1] gIdxB)
  | 23 => some (hDec [some 1, some 1] gPre)
  | 77 => some (hDec [none, none] gIdxS)
  | _ => none
theorem lHooks_kept : HookKept lHooks := by
  intro f h hf args S v S' e
  unfold lHooks at hf
  split at hf <;> first | (cases hf; exact hDec_kept e) | cases hf
theorem lHooks_ok (hM : HasM W0) (hT : HasTab W0) : HookOk Tryd.prog W0 lHooks := by
  intro f h hf args S v S' e ρ w args' hR hO hA
  unfold lHooks at hf
  split at hf
  · cases hf; exact hDec_ok tReady Tryd.func6 rfl (alive_pure hM) e hR hO hA
  · cases hf; exact hDec_ok tReady Tryd.func19 rfl par_pure e hR hO hA
  · cases hf; exact hDec_ok tReady Tryd.func20 rfl (fmt_pure hT) e hR hO hA
  · cases hf; exact hDec_ok tReady Tryd.func22 rfl (idxB_pure hM) e hR hO hA
  · cases hf; exact hDec_ok tReady Tryd.func23 rfl pre_pure e hR hO hA
  · cases hf; exact hDec_ok tReady Tryd.func77 rfl (idxS_pure hM) e hR hO hA
  · cases hf
noncomputable def gLaw (ds : List Arg) : Option Value :=
  match ds with
  | [.v (.int .u64 (.ofNat u)), .v (.string _), .s n cs] => match byteCells cs with
    | some l => bif Nat.beq n l.length && Nat.blt u 18446744073709551616 then some (.bool true) else none
    | none => none
  | _ => none
theorem law_pure (hM : HasM W0) (hT : HasTab W0) : PureDec Tryd.prog W0 3 [none, none, some 1] gLaw := by
  refine pureDec_of tReady (lHooks_ok hM hT) lHooks_kept (Nat.le_of_ble_eq_true (by kernel_rfl)) Tryd.func3 rfl (by decide) (fun sz hsz => ?_) (fun ds v h => ?_) ?_
  · simp at hsz; subst hsz; exact ⟨5, by kernel_rfl⟩
  · unfold gLaw at h
    split at h
    · split at h
      · obtain ⟨_, h⟩ := cond_some' h; cases h; rfl
      · cases h
    · cases h
  · intro ds v h S xs hH hf hn
    unfold gLaw at h
    split at h
    · rename_i u s n cs
      split at h
      · rename_i l hl
        obtain ⟨hb, h⟩ := cond_some' h
        cases h
        obtain ⟨hb, hu⟩ := Bool.and_eq_true_iff.1 hb
        obtain rfl := Nat.eq_of_beq_eq_true hb
        have hu := Nat.le_of_ble_eq_true hu
        obtain rfl := byteCells_eq hl
        cases hH with
        | cons h1 t =>
        cases t with
        | cons h2 t =>
        cases t with
        | cons h3 t =>
          cases t
          cases h1
          cases h2
          have hS : S.next ≤ 1070000000 := Nat.le_trans hn (Nat.le_of_ble_eq_true (by kernel_rfl))
          obtain ⟨w, S', hev, rfl⟩ := back_ev lHooks rfl ⟨_, rfl, fun S => rfl⟩ rfl rfl rfl rfl rfl rfl rfl rfl rfl rfl rfl rfl rfl rfl rfl S u (by omega) s.data.toList _ l (isB_of h3) ⟨hf, hS⟩
          exact ⟨S', hev⟩
      · cases h
    · cases h
end

theorem own : ownKnob Tryd.prog.godebug = none := by kernel_rfl
theorem laidOut : laidOutB Tryd.prog = true := by kernel_rfl
theorem readable : (Tryd.f3.params.toList.all fun t => Tryd.prog.readableRec t && decide (t < Tryd.prog.types.size)) = true := by kernel_rfl

set_option maxRecDepth 100000 in
theorem contract (H : Type) (enc : TypeId × Value → H) (W : World) (base : Nat) (args : Array Value) (ds gs : List (DataW H)) (before : List MemPlace) (hM : HasM W) (hT : HasTab W)
    (hval : ∀ (j : Nat) t v, Tryd.f3.params[j]? = some t → args[j]? = some v → Value.okWide Tryd.prog W .any base t v)
    (hW : DataW.Whole enc Tryd.prog Tryd.f3.params.toList Rows.wordsBackSpec.vars false W args.toList ds gs before) :
    Calls Tryd.prog 3 args W fun e W' => ∃ v, e = .returned v ∧ Rows.wordsBackSpec.post enc Tryd.prog Tryd.f3 false true false false W args v W' := by
  have hW' := hW
  obtain ⟨p, q, hA0, hV, rfl, hfz, hnd⟩ := hW
  have hA : DataW.TrodAll enc Tryd.prog W 0 (fun _ => true) true Tryd.f3.params.toList args.toList ds p := hA0
  rw [Tryd.params3] at hA hval
  obtain ⟨v0, vs0, d0, ds0, p0, q0, hargs, rfl, rfl, h0, r0⟩ := trodAll_cons hA
  obtain ⟨v1, vs1, d1, ds1, p1, q1, rfl, rfl, rfl, h1, r1⟩ := trodAll_cons r0
  obtain ⟨v2, vs2, d2, ds2, p2, q2, rfl, rfl, rfl, h2, r2⟩ := trodAll_cons r1
  obtain ⟨rfl, rfl, rfl⟩ := trodAll_nil r2
  obtain rfl : args = #[v0, v1, v2] := by cases args; simp_all
  obtain ⟨a, len, cap, rfl⟩ := okWide_slice Tryd.underlying23 (hval 2 23 v2 rfl rfl)
  obtain ⟨u0, rfl⟩ := okWide_int Tryd.underlying22 (hval 0 22 v0 rfl rfl)
  obtain ⟨s, rfl⟩ := okWide_string Tryd.underlying9 (hval 1 9 v1 rfl rfl)
  obtain ⟨fu, hfu⟩ := h0
  obtain ⟨_, hu1, _, hw⟩ := DataW.trod_int Tryd.underlying22 hfu
  cases hu1
  obtain ⟨hw0, hw1⟩ := Bool.and_eq_true_iff.1 hw
  have hw0 : (0 : Int) ≤ u0 := of_decide_eq_true hw0
  have hw1 : u0 ≤ (18446744073709551615 : Int) := of_decide_eq_true hw1
  obtain ⟨u, rfl⟩ : ∃ u : Nat, u0 = u := ⟨u0.toNat, by omega⟩
  obtain ⟨fuel, hf⟩ := h2
  obtain ⟨l, hd⟩ := dec_bytes (v := .slice a len cap) Tryd.underlying23 Tryd.underlying5 (by kernel_rfl) (by simpa [Value.cells] using hf)
  obtain ⟨_, hcalls⟩ := law_pure hM hT [.v (.int .u64 (u : Int)), .v (.string s), .s l.length (cellsOfBytes l)] (.bool true) (by
    show (match byteCells (cellsOfBytes l) with | some l' => bif Nat.beq l.length l'.length && Nat.blt u 18446744073709551616 then some (Value.bool true) else none | none => none) = _
    rw [byteCells_of]
    simp only
    rw [Nat.beq_refl, show Nat.blt u 18446744073709551616 = true from Nat.ble_eq_true_of_le (by omega)]; rfl)
  refine (hcalls W [.int .u64 (u : Int), .string s, .slice a len cap] (fun _ _ => rfl) (Nat.le_refl _) (.cons (.v _ rfl) (.cons (.v _ rfl) (.cons hd .nil)))).mono fun e W' ⟨he, hbel⟩ => ?_
  subst he
  exact ⟨_, rfl, law_post hW' rfl laidOut readable rfl Tryd.underlying4 rfl hbel⟩

noncomputable def wit : Array Value := #[.int .u64 0, .string .empty, .slice none 0 0]
theorem noHandles : (Rows.wordsBackRow.laid.filter fun x => x.2.handleName?.isSome) = [] := by kernel_rfl
theorem powData : Rows.laid_internal_strconv_uint64pow10 (H := Unit) = Lib.tabData .u64 Lib.pow10Tab := by kernel_rfl
theorem hasTab {W : World} (hL : laidMetH Tryd.prog Rows.wordsBackRow.laid W) : HasTab W := by
  unfold laidMetH at hL
  rw [noHandles] at hL
  obtain ⟨ps, hV, _⟩ := hL
  obtain ⟨_, _, _, _, _, _, _, _, _, _, hV, _⟩ := hV
  obtain ⟨_, _, _, _, _, _, _, _, _, _, hV, _⟩ := hV
  obtain ⟨g', t', cs, fuel, p, q, hg', ht', hvar, hd, _, _⟩ := hV
  have hg : Tryd.prog.globalNamed "internal/strconv.uint64pow10" = some 3 := by kernel_rfl
  obtain rfl := Option.some.inj (hg.symm.trans hg')
  have hty : (Tryd.prog.globals[3]?).map (·.type) = some 114 := by kernel_rfl
  obtain rfl := Option.some.inj (hty.symm.trans ht')
  unfold HasTab Lib.TabIs
  rw [hvar]
  rw [powData] at hd
  rw [← Lib.cells_of_tab Tryd.underlying114 Tryd.underlying22 (by kernel_rfl) (by kernel_rfl) hd]
theorem laid_met (os : Os) : laidMet Tryd.prog Rows.wordsBackRow.laid ((World.laidAll Tryd.prog os Rows.wordsBackRow.laid).forCall (fun _ _ => 0) ⟨#[], wit, []⟩).memory :=
  laidMet_laidAll _ (by kernel_rfl) (by kernel_rfl)
theorem reads (os : Os) {H : Type} (enc : TypeId × Value → H) : ∃ places, DataW.whole enc Tryd.prog ((World.laidAll Tryd.prog os Rows.wordsBackRow.laid).forCall (fun _ _ => 0) ⟨#[], wit, []⟩).memory Tryd.f3.params.toList Rows.wordsBackSpec.vars false wit.toList 8 =
    some ([.lit (.int .u64 0), .lit (.string []), .nil], [], places) :=
  ⟨[], by kernel_rfl⟩

set_option maxRecDepth 100000 in
theorem lifted (os : Os) (started : os.Started) (H : Type) (enc : TypeId × Value → H) (F : Stop.Interp) :
    ReturnsInHanded {} Tryd.checked os 3 .any ((OpenSpec.ofChange Rows.wordsBackSpec).preRow enc Tryd.prog Tryd.f3 Rows.wordsBackRow.domain false Rows.wordsBackRow.laid) (((OpenSpec.ofChange Rows.wordsBackSpec).at F).post enc Tryd.prog Tryd.f3 false true false false) := by
  obtain ⟨places, hx⟩ := reads os enc
  refine returnsInHanded_of_row (C := Tryd.checked) (s := OpenSpec.ofChange Rows.wordsBackSpec) own started (by kernel_rfl) Tryd.func3
    (witness_row_at (enc := enc) (C := Tryd.checked) false (World.laidAll Tryd.prog os Rows.wordsBackRow.laid) wit (World.laidAll_os _ _ _) (by kernel_rfl) (by kernel_rfl) (by kernel_rfl)
      (OpenSpec.preRow_of_cond 8 hx (by kernel_rfl) (fun k hk => by cases hk) (by kernel_rfl) (laid_met os))) ?_
  intro W base args ds gs before hval hW _ _ _ hL hsh _
  exact contract H enc W base args ds gs before (Tryd.laysM143.s1_3 W hsh) (hasTab hL) hval hW

theorem said : Rows.WordsBackSaid :=
  OpenClaim.holds_of_cond 3 Tryd.f3 rfl rfl rfl rfl rfl rfl rfl ⟨rfl, rfl, rfl, rfl, rfl⟩ rfl rfl rfl rfl rfl (by kernel_rfl) Tryd.func3 (by kernel_rfl)
    (of_decide_eq_true (by kernel_rfl)) (by unfold Func.isWrapper; first | (rw [if_pos (by decide +kernel)]; kernel_rfl) | (rw [if_neg (by decide +kernel)]; exact ⟨rfl, rfl⟩))
    (fun os started H enc _ F => by rw [OpenClaim.pre_eq_preRow]; exact lifted os started H enc F)

theorem plain (f : FuncId) (fn : Func) (hf : Tryd.pinned.checked.prog.funcNamed "euphroe/euphroelaw14.WordsBack" = some f) (hfn : Tryd.pinned.checked.prog.funcs[f]? = some fn) :
    true = Tryd.pinned.checked.prog.looks [] ∧ ∀ (j : Nat) t, fn.params[j]? = some t → Tryd.pinned.checked.prog.wantsStandIn t = false := by
  obtain rfl : f = 3 := Option.some.inj ((show Tryd.prog.funcNamed "euphroe/euphroelaw14.WordsBack" = some 3 by kernel_rfl).symm.trans hf) |>.symm
  obtain rfl : fn = Tryd.f3 := (Option.some.inj (Tryd.func3.symm.trans hfn)).symm
  refine ⟨by kernel_rfl, fun j t ht => ?_⟩
  rw [Tryd.params3] at ht
  have hm := Array.mem_of_getElem? ht
  simp at hm
  rcases hm with rfl | rfl | rfl
  · exact (show Tryd.prog.wantsStandIn 22 = false by kernel_rfl)
  · exact (show Tryd.prog.wantsStandIn 9 = false by kernel_rfl)
  · exact (show Tryd.prog.wantsStandIn 23 = false by kernel_rfl)

/-- The card. -/
theorem card : Rows.WordsBackCardSaid :=
  Claim7.holds_tied_plain_at .later [] _ _ _ _ said (fun _ h => by cases h) (by kernel_rfl) (fun _ h => by cases h) wordsBack_row_tie rfl ⟨rfl, rfl⟩ (by kernel_rfl) rfl plain (by kernel_rfl)
end Go.Proofs.YtjcfoofbagpooaaDoor.back
