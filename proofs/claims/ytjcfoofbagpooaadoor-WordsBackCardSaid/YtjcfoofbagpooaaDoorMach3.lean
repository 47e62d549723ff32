/- An abstract, deterministic machine over the model's code, and the proof that whatever runs through in it is what the code does in every world (part 4 of 4; no condition of its own). -/
import Derived.Test.YtjcfoofbagpooaaDoorMach2
import Derived.Lib.Index
import Derived.ChangeSlices
import Derived.DataReads
namespace Go.Mig
open Go Go.Mir Go.Mif
noncomputable section

structure Env where
  n : Nat
  f : Nat → Value

def Env.get (E : Env) (i : Nat) : Value := bif Nat.blt i E.n then E.f i else undef
def upd (f : Nat → Value) (d : Nat) (v : Value) (i : Nat) : Value := bif Nat.beq i d then v else f i
def Env.set (E : Env) (d : Nat) (v : Value) : Env := ⟨E.n, upd E.f d v⟩
def Env.list (E : Env) : List Value := (List.range E.n).map E.get
def Env.ofArgs (l : List Value) (n : Nat) : Env := ⟨n, fun i => l.getD i undef⟩
def evG (E : Env) : Operand → Value
  | .tmp t => E.get t
  | .const v => bif plainV v then v else undef
  | .global _ => undef
  | .func f => .func (.func f) #[] #[]
def putG (E : Env) : Option Tmp → Value → Env
  | some d, v => E.set d v
  | none, _ => E

/-! ### The machine -/
structure OutG where
  x : Ex
  tm : Env
  s : St

abbrev CodeFG := Code → Env → St → Option OutG

def resultG (P : Program) (s : St) (E : Env) : ResultVar → Option Value
  | .tmp t => some (E.get t)
  | .cell a t => match E.get a with
    | .pointer (some a) => Mir.loadT P s t a
    | _ => none

def resListG (P : Program) (s : St) (E : Env) : List ResultVar → Option (List Value)
  | [] => some []
  | r :: rs => match resultG P s E r with
    | some v => match resListG P s E rs with
      | some vs => some (v :: vs)
      | none => none
    | none => none

def resultsG (P : Program) (s : St) (fn : Func) (E : Env) : Option (Value × St) :=
  match resListG P s E fn.results.toList with
  | some vs => some (oneOrTuple vs, s)
  | none => none

def leaveG (P : Program) (fn : Func) : Option OutG → Option (Value × St)
  | some ⟨.normal, tm, s⟩ => resultsG P s fn tm
  | some ⟨.ret, tm, s⟩ => resultsG P s fn tm
  | _ => none

def callG (P : Program) (H : Hooks) (rc : CodeFG) (f : FuncId) (args : List Value) (s : St) : Option (Value × St) :=
  match P.funcs[f]? with
  | some fn =>
    match H f with
    | some h => h args s
    | none =>
    match fn.body with
    | some c => bif Nat.ble fn.ntmps 1000000 && Nat.ble args.length fn.ntmps then leaveG P fn (rc c (Env.ofArgs args fn.ntmps) s) else none
    | none => none
  | none => none

def bodyG (rc : CodeFG) (l : Nat) (body : Code) : Option OutG → Option OutG
  | some ⟨.normal, tm, s⟩ => match s.get l with
    | some (.obj (.loop r)) => match r.state with
      | .ready => rc body tm (s.put l (.obj (.loop { r with state := .busy })))
      | _ => none
    | _ => none
  | _ => none
def endRoundG (l : Nat) : Option OutG → Option (Value × St)
  | some ⟨x, _, s⟩ => match s.get l with
    | some (.obj (.loop r)) => some (.bool x.jump.isNone, s.put l (.obj (.loop { r with state := (if x.jump.isNone then .ready else .done), pending := x.jump })))
    | _ => none
  | none => none
def roundG (rc : CodeFG) (l : Nat) (args : List Value) (s : St) : Option (Value × St) :=
  match s.get l with
  | some (.obj (.loop r)) =>
    bif (Nat.beq args.length r.params.toList.length && noRange r.assign && noRange r.body) && Nat.ble r.tmps.toList.length 1000000 then
      endRoundG l (bodyG rc l r.body (rc r.assign (Env.ofArgs (roundTmps (r.params.toList.zip args) r.tmps.toList) r.tmps.toList.length) s))
    else none
  | _ => none

def wantedG (ops : Array Oper) (E : Env) (o : Oper) : Option Bool :=
  match o.guard with
  | none => some true
  | some (j, want) => match ops[j]? with
    | some oj => match oj.dst with
      | some d => match E.get d with
        | .bool b => some (match b, want with | true, true => true | false, false => true | _, _ => false)
        | .chan none => some false
        | _ => none
      | none => none
    | none => none

def execG (P : Program) (H : Hooks) (rc : CodeFG) : Option ARes → Option (Value × St)
  | some (.val v s) => some (v, s)
  | some (.call f args s) => callG P H rc f args s
  | some (.round l args s) => roundG rc l args s
  | none => none

def thenG (dst : Option Tmp) (E : Env) (k : Env → St → Option (Env × St)) : Option (Value × St) → Option (Env × St)
  | some (v, s) => k (putG E dst v) s
  | none => none

def runOpsG (P : Program) (H : Hooks) (rc : CodeFG) (ops : Array Oper) : List Oper → Env → St → Option (Env × St)
  | [], E, s => some (E, s)
  | o :: rest, E, s =>
    match wantedG ops E o with
    | some true => thenG o.dst E (runOpsG P H rc ops rest) (execG P H rc (Mif.aop (FP.of P) s (evG E) o))
    | some false => runOpsG P H rc ops rest (putG E o.dst skipV) s
    | none => none

def runDrawG (P : Program) (H : Hooks) (rc : CodeFG) (ops : Array Oper) : Nat → List Oper → List Nat → List (Nat × Did) → Env → St → Option (Env × St)
  | _, [], _, _, E, s => some (E, s)
  | i, o :: rest, m :: ms, done, E, s =>
    match wantedG ops E o with
    | some true =>
      match execG P H rc (Mif.aop (FP.of P) { heap := s.heap, next := s.next, lo := s.next } (evG E) o) with
      | some (v, s') =>
        bif apartAll m (didOf s s' (Mif.opClsF (evG E) o.op)) done then runDrawG P H rc ops (i + 1) rest ms ((i, didOf s s' (Mif.opClsF (evG E) o.op)) :: done) (putG E o.dst v) (afterOp s s' (didOf s s' (Mif.opClsF (evG E) o.op))) else none
      | none => none
    | some false => runDrawG P H rc ops (i + 1) rest ms done (putG E o.dst skipV) s
    | none => none
  | _, _ :: _, [], _, _, _ => none

def drawG (P : Program) (H : Hooks) (rc : CodeFG) (ops : Array Oper) (E : Env) (s : St) : Option (Env × St) :=
  bif Mir.distinct (ops.toList.map (·.dst)) && drawOk ops (ops.toList.map (·.dst)) (befA [] ops.toList) 0 ops.toList (befA [] ops.toList) then
    runDrawG P H rc ops 0 ops.toList (befA [] ops.toList) [] E s
  else none

def jumpOutG (E : Env) (s : St) : Option Code → Option OutG
  | none => some ⟨.normal, E, s⟩
  | some .ret => some ⟨.ret, E, s⟩
  | some (.exit id) => some ⟨.exit id, E, s⟩
  | some (.goto l) => some ⟨.goto l, E, s⟩
  | _ => none

def seqG (rc : CodeFG) (b : Code) : Option OutG → Option OutG
  | some ⟨.normal, tm, s⟩ => rc b tm s
  | r => r
def condG (rc : CodeFG) (a b : Code) (tm : Env) (s : St) : Value → Option OutG
  | .bool true => rc a tm s
  | .bool false => rc b tm s
  | _ => none
def blockG (id : Nat) : Option OutG → Option OutG
  | some ⟨.exit id', tm, s⟩ => bif id'.beq id then some ⟨.normal, tm, s⟩ else some ⟨.exit id', tm, s⟩
  | r => r
def scopeG : Option OutG → Option OutG
  | some ⟨.goto _, _, _⟩ => none
  | r => r
def regionG : Option (Env × St) → Option OutG
  | some (tm, s) => some ⟨.normal, tm, s⟩
  | none => none
def endRangeG (E : Env) (l : Nat) : Option (Value × St) → Option OutG
  | some (_, s) => match s.get l with
    | some (.obj (.loop r)) => match r.state with
      | .busy => none
      | _ => jumpOutG E (s.put l (.obj (.loop { r with state := .exhausted }))) r.pending
    | _ => none
  | none => none
def rangeG (P : Program) (H : Hooks) (rc : CodeFG) (f : Value) (params : Array Tmp) (assign body : Code) (E : Env) (s : St) : Option OutG :=
  bif Nat.ble (E.list).length 1000000 then
  match newObjA s (.loop { state := .ready, pending := none, fn := 0, tmps := ⟨E.list⟩, params, assign, body, defers := 0 }) with
  | some (l, s) => match f with
    | .func (.func g) first captured => match H g with
      | none => endRangeG E l (callG P H rc g (first.toList ++ [.func (.yield l) #[] #[]] ++ captured.toList) s)
      | some _ => none
    | _ => none
  | none => none
  else none
def stepCodeG (P : Program) (H : Hooks) (rc : CodeFG) (c : Code) (E : Env) (s : St) : Option OutG :=
  match c with
  | .skip | .label _ => some ⟨.normal, E, s⟩
  | .region _ ops false => regionG (runOpsG P H rc ops ops.toList E s)
  | .region _ ops true => regionG (drawG P H rc ops E s)
  | .seq a b => seqG rc b (rc a E s)
  | .cond c a b => condG rc a b E s (evG E c)
  | .block id body => blockG id (rc body E s)
  | .loop body => seqG rc (.loop body) (rc body E s)
  | .scope body => scopeG (rc body E s)
  | .exit id => some ⟨.exit id, E, s⟩
  | .goto l => some ⟨.goto l, E, s⟩
  | .ret => some ⟨.ret, E, s⟩
  | .rangeFunc f params assign body => rangeG P H rc (evG E f) params assign body E s
  | .refuse _ => none

def runCodeG (P : Program) (H : Hooks) : Nat → CodeFG
  | 0, _, _, _ => none
  | n + 1, c, E, s => stepCodeG P H (runCodeG P H n) c E s

def runFnG (P : Program) (H : Hooks) (n : Nat) (f : FuncId) (args : List Value) (s : St) : Option (Value × St) := callG P H (runCodeG P H n) f args s

end
end Go.Mig

namespace Go.Mig
open Go Go.Mir Go.Mif

structure Fit (E : Env) (tm : List Value) : Prop where
  n : tm.length = E.n
  f : ∀ i, i < E.n → E.f i = tm.getD i undef

theorem beq_false {a b : Nat} (h : a ≠ b) : Nat.beq a b = false := by rw [Bool.eq_false_iff]; intro e; exact h (Nat.eq_of_beq_eq_true e)
theorem blt_true {a b : Nat} (h : a < b) : Nat.blt a b = true := Nat.ble_eq_true_of_le h
theorem blt_false {a b : Nat} (h : ¬ a < b) : Nat.blt a b = false := by rw [Bool.eq_false_iff]; intro e; exact h (Nat.le_of_ble_eq_true e)

theorem Fit.get {E : Env} {tm : List Value} (h : Fit E tm) (i : Nat) : E.get i = tm.getD i undef := by
  unfold Env.get
  by_cases hi : i < E.n
  · rw [blt_true hi]; exact h.f i hi
  · rw [blt_false hi, List.getD_eq_getElem?_getD, List.getElem?_eq_none (by rw [h.n]; omega)]; rfl

theorem Fit.set {E : Env} {tm : List Value} (h : Fit E tm) (d : Nat) (v : Value) : Fit (E.set d v) (tm.set d v) := by
  refine ⟨by rw [List.length_set]; exact h.n, fun i hi => ?_⟩
  have hi' : i < E.n := hi
  show upd E.f d v i = _
  unfold upd
  have hn := h.n
  rw [List.getD_eq_getElem?_getD, List.getElem?_set]
  by_cases e : i = d
  · subst e; rw [Nat.beq_refl, if_pos rfl, if_pos (by omega)]; rfl
  · rw [beq_false e, if_neg (fun x => e x.symm), ← List.getD_eq_getElem?_getD]; exact h.f i hi'

theorem Fit.put {E : Env} {tm : List Value} (h : Fit E tm) (d : Option Tmp) (v : Value) : Fit (putG E d v) (Mir.put tm d v) := by
  cases d with
  | none => exact h
  | some d => exact h.set d v

theorem Fit.ev {E : Env} {tm : List Value} (h : Fit E tm) : evG E = Mir.ev tm := by
  funext o
  cases o with
  | tmp t => exact h.get t
  | const v => rfl
  | global g => rfl
  | func f => rfl

theorem fit_args {l : List Value} {n : Nat} (hl : l.length ≤ n) : Fit (Env.ofArgs l n) (l ++ List.replicate (n - l.length) undef) := by
  refine ⟨by simp [Env.ofArgs]; omega, fun i hi => ?_⟩
  have hi' : i < n := hi
  show l.getD i undef = _
  rw [List.getD_eq_getElem?_getD, List.getD_eq_getElem?_getD, List.getElem?_append]
  by_cases h : i < l.length
  · rw [if_pos h]
  · rw [if_neg h, List.getElem?_eq_none (by omega), List.getElem?_replicate, if_pos (by omega)]; rfl

theorem list_whole {E : Env} {tm : List Value} (h : Fit E tm) : E.list = tm := by
  unfold Env.list
  apply List.ext_getElem?; intro i
  rw [List.getElem?_map]
  have hn := h.n
  by_cases hi : i < E.n
  · rw [List.getElem?_range hi]
    simp only [Option.map_some]
    rw [h.get, List.getD_eq_getElem?_getD, List.getElem?_eq_getElem (by omega)]; rfl
  · rw [List.getElem?_eq_none (by simp; omega), List.getElem?_eq_none (by omega)]; rfl

/-- What the one came to, the other came to. -/
def Same (x : Option OutG) (y : Option Out) : Prop := ∀ e E s, x = some ⟨e, E, s⟩ → ∃ tm, y = some ⟨e, tm, s⟩ ∧ Fit E tm
def SameRc (rf : CodeFG) (rc : CodeF) : Prop := ∀ c E s tm, Fit E tm → Same (rf c E s) (rc c tm s)
def SameTm (x : Option (Env × St)) (y : Option (List Value × St)) : Prop := ∀ E s, x = some (E, s) → ∃ tm, y = some (tm, s) ∧ Fit E tm
def SameV (x y : Option (Value × St)) : Prop := ∀ v s, x = some (v, s) → y = some (v, s)

theorem Same.none (y : Option Out) : Same .none y := fun _ _ _ h => by cases h
theorem SameTm.none (y : Option (List Value × St)) : SameTm .none y := fun _ _ h => by cases h
theorem SameV.none (y : Option (Value × St)) : SameV .none y := fun _ _ h => by cases h
theorem SameV.refl (y : Option (Value × St)) : SameV y y := fun _ _ h => h
theorem Same.some {E : Env} {tm : List Value} (x : Ex) (s : St) (h : Fit E tm) : Same (.some ⟨x, E, s⟩) (.some ⟨x, tm, s⟩) := fun _ _ _ e => by cases e; exact ⟨tm, rfl, h⟩

section
variable (P : Program) {H : Hooks} {rf : CodeFG} {rc : CodeF} {E : Env} {tm : List Value} {s : St}

theorem result_of (h : Fit E tm) (r : ResultVar) : resultG P s E r = Mir.resultA P s tm r := by
  cases r with
  | tmp t => simp only [resultG, Mir.resultA, h.get]
  | cell a t => (simp only [resultG, Mir.resultA, h.get]; rfl)

theorem resList_of (h : Fit E tm) : ∀ l, resListG P s E l = Mir.resListA P s tm l
  | [] => rfl
  | r :: rs => by
    unfold resListG Mir.resListA
    rw [result_of P h, resList_of h rs]
    cases Mir.resultA P s tm r with
    | none => rfl
    | some v => cases Mir.resListA P s tm rs <;> rfl

theorem results_of (h : Fit E tm) (fn : Func) : resultsG P s fn E = Mir.resultsA P s fn tm := by
  unfold resultsG Mir.resultsA
  rw [resList_of P h]
  cases Mir.resListA P s tm fn.results.toList <;> rfl

theorem leave_of {x : Option OutG} {y : Option Out} (h : Same x y) (fn : Func) : SameV (leaveG P fn x) (Mir.leaveA P fn y) := by
  cases x with
  | none => exact .none _
  | some o =>
    obtain ⟨e, E, s⟩ := o
    obtain ⟨tm, rfl, ht⟩ := h e E s rfl
    cases e with
    | normal => simp only [leaveG, Mir.leaveA, results_of P ht]; exact .refl _
    | ret => simp only [leaveG, Mir.leaveA, results_of P ht]; exact .refl _
    | exit id => exact .none _
    | goto l => exact .none _

theorem call_of (hr : SameRc rf rc) (f : FuncId) (args : List Value) (s : St) : SameV (callG P H rf f args s) (Mir.callA P H rc f args s) := by
  unfold callG Mir.callA
  cases P.funcs[f]? with
  | none => exact .none _
  | some fn =>
    simp only
    cases H f with
    | some h => exact .refl _
    | none =>
      simp only
      cases fn.body with
      | none => exact .none _
      | some c =>
        simp only
        cases hb : (Nat.ble fn.ntmps 1000000 && Nat.ble args.length fn.ntmps) with
        | false => exact .none _
        | true =>
          simp only [Bool.and_eq_true] at hb
          simp only [cond_true]
          exact leave_of P (hr _ _ _ _ (fit_args (Nat.le_of_ble_eq_true hb.2))) fn

theorem body_of (hr : SameRc rf rc) {x : Option OutG} {y : Option Out} (h : Same x y) (l : Nat) (body : Code) : Same (bodyG rf l body x) (Mir.bodyA rc l body y) := by
  cases x with
  | none => exact .none _
  | some o =>
    obtain ⟨e, E, s⟩ := o
    obtain ⟨tm, rfl, ht⟩ := h e E s rfl
    cases e with
    | normal =>
      simp only [bodyG, Mir.bodyA]
      cases s.get l with
      | none => exact .none _
      | some b =>
        cases b with
        | obj o =>
          cases o with
          | loop r =>
            simp only
            cases r.state with
            | ready => exact hr _ _ _ _ ht
            | _ => exact .none _
          | _ => exact .none _
        | _ => exact .none _
    | _ => exact .none _

theorem endRound_of {x : Option OutG} {y : Option Out} (h : Same x y) (l : Nat) : SameV (endRoundG l x) (Mir.endRoundA l y) := by
  cases x with
  | none => exact .none _
  | some o =>
    obtain ⟨e, E, s⟩ := o
    obtain ⟨tm, rfl, ht⟩ := h e E s rfl
    simp only [endRoundG, Mir.endRoundA]
    cases s.get l with
    | none => exact .none _
    | some b =>
      cases b with
      | obj o =>
        cases o with
        | loop r => exact .refl _
        | _ => exact .none _
      | _ => exact .none _

theorem roundTmps_length : ∀ (l : List (Tmp × Value)) (tm : List Value), (roundTmps l tm).length = tm.length
  | [], tm => rfl
  | (t, a) :: r, tm => by
    unfold roundTmps
    rw [roundTmps_length r]; simp

theorem round_of (hr : SameRc rf rc) (l : Nat) (args : List Value) (s : St) : SameV (roundG rf l args s) (Mir.roundA rc l args s) := by
  unfold roundG Mir.roundA
  cases s.get l with
  | none => exact .none _
  | some b =>
    cases b with
    | obj o =>
      cases o with
      | loop r =>
        simp only
        cases hb : (Nat.beq args.length r.params.toList.length && noRange r.assign && noRange r.body) with
        | false => simp only [Bool.false_and, cond_false]; exact .none _
        | true =>
          simp only [Bool.true_and, cond_true]
          cases hc : Nat.ble r.tmps.toList.length 1000000 with
          | false => exact .none _
          | true =>
            simp only [cond_true]
            refine endRound_of (body_of hr (hr _ _ _ _ ?_) l _) l
            have h1 := roundTmps_length (r.params.toList.zip args) r.tmps.toList
            have := fit_args (l := roundTmps (r.params.toList.zip args) r.tmps.toList) (n := r.tmps.toList.length) (by rw [h1]; exact Nat.le_refl _)
            rw [h1] at this
            simpa using this
      | _ => exact .none _
    | _ => exact .none _

theorem wanted_of (h : Fit E tm) (ops : Array Oper) (o : Oper) {b : Bool} (hw : wantedG ops E o = some b) : Mir.wantedA ops tm o = some b := by
  unfold wantedG at hw
  unfold Mir.wantedA
  cases hg : o.guard with
  | none => rw [hg] at hw; exact hw
  | some g =>
    obtain ⟨j, want⟩ := g
    rw [hg] at hw
    simp only at hw ⊢
    cases hj : ops[j]? with
    | none => rw [hj] at hw; cases hw
    | some oj =>
      rw [hj] at hw
      simp only at hw ⊢
      cases hd : oj.dst with
      | none => rw [hd] at hw; cases hw
      | some d =>
        rw [hd] at hw
        simp only [h.get, List.getD_eq_getElem?_getD] at hw
        simp only
        cases ht : tm[d]? with
        | none => rw [ht] at hw; cases hw
        | some v => rw [ht] at hw; simp only [Option.getD_some] at hw; rw [← hw]; cases v <;> first | rfl | (rename_i c; cases c <;> rfl)

theorem exec_of (hr : SameRc rf rc) (r : Option ARes) : SameV (execG P H rf r) (Mir.execA P H rc r) := by
  cases r with
  | none => exact .none _
  | some r =>
    cases r with
    | val v s => exact .refl _
    | call f args s => exact call_of P hr f args s
    | round l args s => exact round_of hr l args s

theorem ops_of (hr : SameRc rf rc) (ops : Array Oper) : ∀ (l : List Oper) (E : Env) (tm : List Value) (s : St), Fit E tm → SameTm (runOpsG P H rf ops l E s) (Mir.runOps P H rc ops l tm s)
  | [], E, tm, s, h => by
    intro E' s' e
    cases e
    exact ⟨tm, rfl, h⟩
  | o :: rest, E, tm, s, h => by
    intro E' s' e
    unfold runOpsG at e
    unfold Mir.runOps
    cases hw : wantedG ops E o with
    | none => rw [hw] at e; cases e
    | some b =>
      rw [hw] at e
      rw [wanted_of h ops o hw]
      cases b with
      | false => exact ops_of hr ops rest _ _ _ (h.put _ _) E' s' e
      | true =>
        simp only at e ⊢
        rw [h.ev, aop_of] at e
        cases hx : execG P H rf (Mir.aop P s tm o) with
        | none => rw [hx] at e; cases e
        | some q =>
          obtain ⟨v, s1⟩ := q
          rw [hx] at e
          rw [exec_of P hr _ v s1 hx]
          exact ops_of hr ops rest _ _ _ (h.put _ _) E' s' e

theorem cls_of (h : Fit E tm) (o : Op) : Mif.opClsF (evG E) o = Mir.opCls tm o := by
  rw [h.ev]
  cases o <;> rfl

theorem draw_of (hr : SameRc rf rc) (ops : Array Oper) : ∀ (l : List Oper) (i : Nat) (ms : List Nat) (done : List (Nat × Did)) (E : Env) (tm : List Value) (s : St), Fit E tm → SameTm (runDrawG P H rf ops i l ms done E s) (Mir.runDraw P H rc ops i l ms done tm s)
  | [], i, ms, done, E, tm, s, h => by
    intro E' s' e
    unfold runDrawG at e
    cases e
    exact ⟨tm, by unfold Mir.runDraw; rfl, h⟩
  | o :: rest, i, [], done, E, tm, s, h => by
    intro E' s' e
    unfold runDrawG at e
    cases e
  | o :: rest, i, m :: ms, done, E, tm, s, h => by
    intro E' s' e
    unfold runDrawG at e
    unfold Mir.runDraw
    cases hw : wantedG ops E o with
    | none => rw [hw] at e; cases e
    | some b =>
      rw [hw] at e
      rw [wanted_of h ops o hw]
      cases b with
      | false => exact draw_of hr ops rest _ _ _ _ _ _ (h.put _ _) E' s' e
      | true =>
        simp only at e ⊢
        rw [cls_of h, h.ev, aop_of] at e
        cases hx : execG P H rf (Mir.aop P { heap := s.heap, next := s.next, lo := s.next } tm o) with
        | none => rw [hx] at e; cases e
        | some q =>
          obtain ⟨v, s1⟩ := q
          rw [hx] at e
          rw [exec_of P hr _ v s1 hx]
          simp only at e ⊢
          cases ha : apartAll m (didOf s s1 (Mir.opCls tm o.op)) done with
          | false => rw [ha] at e; cases e
          | true =>
            rw [ha] at e
            exact draw_of hr ops rest _ _ _ _ _ _ (h.put _ _) E' s' e

theorem drawn_of (hr : SameRc rf rc) (ops : Array Oper) (h : Fit E tm) : SameTm (drawG P H rf ops E s) (Mir.drawA P H rc ops tm s) := by
  unfold drawG Mir.drawA
  cases (Mir.distinct (ops.toList.map (·.dst)) && drawOk ops (ops.toList.map (·.dst)) (befA [] ops.toList) 0 ops.toList (befA [] ops.toList)) with
  | false => exact .none _
  | true => exact draw_of P hr ops _ _ _ _ _ _ _ h

theorem region_of {x : Option (Env × St)} {y : Option (List Value × St)} (h : SameTm x y) : Same (regionG x) (Mir.regionA y) := by
  cases x with
  | none => exact .none _
  | some q =>
    obtain ⟨E, s⟩ := q
    obtain ⟨tm, rfl, ht⟩ := h E s rfl
    exact .some _ _ ht

theorem seq_of (hr : SameRc rf rc) {x : Option OutG} {y : Option Out} (h : Same x y) (b : Code) : Same (seqG rf b x) (Mir.seqA rc b y) := by
  cases x with
  | none => exact .none _
  | some o =>
    obtain ⟨e, E, s⟩ := o
    obtain ⟨tm, rfl, ht⟩ := h e E s rfl
    cases e with
    | normal => exact hr _ _ _ _ ht
    | _ => exact .some _ _ ht

theorem cond_of (hr : SameRc rf rc) (h : Fit E tm) (a b : Code) (v : Value) : Same (condG rf a b E s v) (Mir.condA rc a b tm s v) := by
  cases v with
  | bool c => cases c <;> exact hr _ _ _ _ h
  | _ => exact .none _

theorem block_of {x : Option OutG} {y : Option Out} (h : Same x y) (id : Nat) : Same (blockG id x) (Mir.blockA id y) := by
  cases x with
  | none => exact .none _
  | some o =>
    obtain ⟨e, E, s⟩ := o
    obtain ⟨tm, rfl, ht⟩ := h e E s rfl
    cases e with
    | exit i =>
      simp only [blockG, Mir.blockA]
      cases i.beq id <;> exact .some _ _ ht
    | _ => exact .some _ _ ht

theorem scope_of {x : Option OutG} {y : Option Out} (h : Same x y) : Same (scopeG x) (Mir.scopeA y) := by
  cases x with
  | none => exact .none _
  | some o =>
    obtain ⟨e, E, s⟩ := o
    obtain ⟨tm, rfl, ht⟩ := h e E s rfl
    cases e with
    | goto i => exact .none _
    | _ => exact .some _ _ ht

theorem jump_of (h : Fit E tm) (j : Option Code) : Same (jumpOutG E s j) (Mir.jumpOut tm s j) := by
  cases j with
  | none => exact .some _ _ h
  | some c =>
    cases c with
    | ret | exit | goto => exact .some _ _ h
    | _ => exact .none _

theorem endRange_of (h : Fit E tm) (l : Nat) {x y : Option (Value × St)} (hv : SameV x y) : Same (endRangeG E l x) (Mir.endRangeA tm l y) := by
  cases x with
  | none => exact .none _
  | some q =>
    obtain ⟨v, s⟩ := q
    rw [hv v s rfl]
    simp only [endRangeG, Mir.endRangeA]
    cases s.get l with
    | none => exact .none _
    | some b =>
      cases b with
      | obj o =>
        cases o with
        | loop r =>
          simp only
          cases r.state with
          | busy => exact .none _
          | _ => exact jump_of h _
        | _ => exact .none _
      | _ => exact .none _

theorem range_of (hr : SameRc rf rc) (h : Fit E tm) (f : Value) (params : Array Tmp) (assign body : Code) : Same (rangeG P H rf f params assign body E s) (Mir.rangeA P H rc f params assign body tm s) := by
  unfold rangeG Mir.rangeA
  cases hl : Nat.ble (E.list).length 1000000 with
  | false => exact .none _
  | true =>
    rw [list_whole h]
    simp only [cond_true]
    cases newObjA s (.loop { state := .ready, pending := none, fn := 0, tmps := ⟨tm⟩, params, assign, body, defers := 0 }) with
    | none => exact .none _
    | some q =>
      obtain ⟨l, s1⟩ := q
      simp only
      cases f with
      | func fn first captured =>
        cases fn with
        | func g =>
          simp only
          cases H g with
          | none => exact endRange_of h l (call_of P hr g _ s1)
          | some _ => exact .none _
        | _ => exact .none _
      | _ => exact .none _

theorem step_of (hr : SameRc rf rc) (h : Fit E tm) (c : Code) : Same (stepCodeG P H rf c E s) (Mir.stepCode P H rc c tm s) := by
  cases c with
  | skip => exact .some _ _ h
  | label l => exact .some _ _ h
  | region id ops draw =>
    cases draw with
    | false => exact region_of (ops_of P hr ops _ _ _ _ h)
    | true => exact region_of (drawn_of P hr ops h)
  | seq a b => exact seq_of hr (hr _ _ _ _ h) b
  | cond c a b =>
    show Same (condG rf a b E s (evG E c)) (Mir.condA rc a b tm s (Mir.ev tm c))
    rw [h.ev]; exact cond_of hr h a b _
  | block id body => exact block_of (hr _ _ _ _ h) id
  | loop body => exact seq_of hr (hr _ _ _ _ h) (.loop body)
  | scope body => exact scope_of (hr _ _ _ _ h)
  | exit id => exact .some _ _ h
  | goto l => exact .some _ _ h
  | ret => exact .some _ _ h
  | rangeFunc f params assign body =>
    show Same (rangeG P H rf (evG E f) params assign body E s) (Mir.rangeA P H rc (Mir.ev tm f) params assign body tm s)
    rw [h.ev]; exact range_of P hr h _ _ _ _
  | refuse w => exact .none _

theorem run_of : ∀ n, SameRc (runCodeG P H n) (Mir.runCode P H n)
  | 0 => fun _ _ _ _ _ => .none _
  | n + 1 => fun c _ _ _ h => step_of P (run_of n) h c

theorem runFn_of (n : Nat) (f : FuncId) (args : List Value) (s : St) : SameV (runFnG P H n f args s) (Mir.runFn P H n f args s) := call_of P (run_of P n) f args s
end

end Go.Mig

namespace Go.Mig
open Go Go.Mir Go.Mif Go.RowKit
noncomputable section

/-- What the one came to, the other came to. -/
def Le {α : Type} (x y : Option α) : Prop := ∀ o, x = some o → y = some o
def LeRc (r r' : CodeFG) : Prop := ∀ c E s, Le (r c E s) (r' c E s)
theorem Le.refl {α : Type} (x : Option α) : Le x x := fun _ h => h
theorem Le.none {α : Type} (x : Option α) : Le .none x := fun _ h => by cases h

section
variable {P : Program} {H : Hooks} {r r' : CodeFG}

theorem leave_le {x y : Option OutG} (h : Le x y) (fn : Func) : Le (leaveG P fn x) (leaveG P fn y) := by
  cases x with
  | none => exact .none _
  | some o => rw [h o rfl]; exact .refl _
theorem call_le (hr : LeRc r r') (f : FuncId) (args : List Value) (s : St) : Le (callG P H r f args s) (callG P H r' f args s) := by
  unfold callG
  split
  · split
    · exact .refl _
    · split
      · cases (Nat.ble _ 1000000 && Nat.ble args.length _) with
        | false => exact .none _
        | true => exact leave_le (hr _ _ _) _
      · exact .none _
  · exact .none _
theorem body_le (hr : LeRc r r') {x y : Option OutG} (h : Le x y) (l : Nat) (body : Code) : Le (bodyG r l body x) (bodyG r' l body y) := by
  cases x with
  | none => exact .none _
  | some o =>
    rw [h o rfl]
    obtain ⟨e, E, s⟩ := o
    cases e <;> simp only [bodyG] <;> try exact .none _
    split
    · split
      · exact hr _ _ _
      · exact .none _
    · exact .none _
theorem endRound_le {x y : Option OutG} (h : Le x y) (l : Nat) : Le (endRoundG l x) (endRoundG l y) := by
  cases x with
  | none => exact .none _
  | some o => rw [h o rfl]; exact .refl _
theorem round_le (hr : LeRc r r') (l : Nat) (args : List Value) (s : St) : Le (roundG r l args s) (roundG r' l args s) := by
  unfold roundG
  split
  · cases ((Nat.beq args.length _ && noRange _ && noRange _) && Nat.ble _ 1000000) with
    | false => exact .none _
    | true => exact endRound_le (body_le hr (hr _ _ _) _ _) _
  · exact .none _
theorem exec_le (hr : LeRc r r') (x : Option ARes) : Le (execG P H r x) (execG P H r' x) := by
  cases x with
  | none => exact .none _
  | some x =>
    cases x with
    | val v s => exact .refl _
    | call f args s => exact call_le hr f args s
    | round l args s => exact round_le hr l args s
theorem ops_le (hr : LeRc r r') (ops : Array Oper) : ∀ (l : List Oper) (E : Env) (s : St), Le (runOpsG P H r ops l E s) (runOpsG P H r' ops l E s)
  | [], E, s => .refl _
  | o :: rest, E, s => by
    intro q e
    unfold runOpsG at e ⊢
    cases hw : wantedG ops E o with
    | none => rw [hw] at e; cases e
    | some b =>
      rw [hw] at e
      cases b with
      | false => exact ops_le hr ops rest _ _ q e
      | true =>
        simp only at e ⊢
        cases hx : execG P H r (Mif.aop (FP.of P) s (evG E) o) with
        | none => rw [hx] at e; cases e
        | some v =>
          rw [hx] at e
          rw [exec_le hr _ v hx]
          exact ops_le hr ops rest _ _ q e
theorem draw_le (hr : LeRc r r') (ops : Array Oper) : ∀ (l : List Oper) (i : Nat) (ms : List Nat) (done : List (Nat × Did)) (E : Env) (s : St), Le (runDrawG P H r ops i l ms done E s) (runDrawG P H r' ops i l ms done E s)
  | [], i, ms, done, E, s => by
    intro q e
    unfold runDrawG at e ⊢
    exact e
  | o :: rest, i, [], done, E, s => by
    intro q e
    unfold runDrawG at e
    cases e
  | o :: rest, i, m :: ms, done, E, s => by
    intro q e
    unfold runDrawG at e ⊢
    cases hw : wantedG ops E o with
    | none => rw [hw] at e; cases e
    | some b =>
      rw [hw] at e
      cases b with
      | false => exact draw_le hr ops rest _ _ _ _ _ q e
      | true =>
        simp only at e ⊢
        cases hx : execG P H r (Mif.aop (FP.of P) { heap := s.heap, next := s.next, lo := s.next } (evG E) o) with
        | none => rw [hx] at e; cases e
        | some v =>
          rw [hx] at e
          rw [exec_le hr _ v hx]
          obtain ⟨v, s1⟩ := v
          simp only at e ⊢
          cases ha : apartAll m (didOf s s1 (Mif.opClsF (evG E) o.op)) done with
          | false => rw [ha] at e; cases e
          | true =>
            rw [ha] at e
            exact draw_le hr ops rest _ _ _ _ _ q e
theorem drawn_le (hr : LeRc r r') (ops : Array Oper) (E : Env) (s : St) : Le (drawG P H r ops E s) (drawG P H r' ops E s) := by
  unfold drawG
  cases (Mir.distinct (ops.toList.map (·.dst)) && drawOk ops (ops.toList.map (·.dst)) (befA [] ops.toList) 0 ops.toList (befA [] ops.toList)) with
  | false => exact .none _
  | true => exact draw_le hr ops _ _ _ _ _ _
theorem region_le {x y : Option (Env × St)} (h : Le x y) : Le (regionG x) (regionG y) := by
  cases x with
  | none => exact .none _
  | some o => rw [h o rfl]; exact .refl _
theorem seq_le (hr : LeRc r r') {x y : Option OutG} (h : Le x y) (b : Code) : Le (seqG r b x) (seqG r' b y) := by
  cases x with
  | none => exact .none _
  | some o =>
    rw [h o rfl]
    obtain ⟨e, E, s⟩ := o
    cases e <;> first | exact hr _ _ _ | exact .refl _
theorem cond_le (hr : LeRc r r') (a b : Code) (E : Env) (s : St) (v : Value) : Le (condG r a b E s v) (condG r' a b E s v) := by
  cases v with
  | bool c => cases c <;> exact hr _ _ _
  | _ => exact .none _
theorem block_le {x y : Option OutG} (h : Le x y) (id : Nat) : Le (blockG id x) (blockG id y) := by
  cases x with
  | none => exact .none _
  | some o => rw [h o rfl]; exact .refl _
theorem scope_le {x y : Option OutG} (h : Le x y) : Le (scopeG x) (scopeG y) := by
  cases x with
  | none => exact .none _
  | some o => rw [h o rfl]; exact .refl _
theorem endRange_le {x y : Option (Value × St)} (h : Le x y) (E : Env) (l : Nat) : Le (endRangeG E l x) (endRangeG E l y) := by
  cases x with
  | none => exact .none _
  | some o => rw [h o rfl]; exact .refl _
theorem range_le (hr : LeRc r r') (f : Value) (params : Array Tmp) (assign body : Code) (E : Env) (s : St) : Le (rangeG P H r f params assign body E s) (rangeG P H r' f params assign body E s) := by
  unfold rangeG
  cases Nat.ble (E.list).length 1000000 with
  | false => exact .none _
  | true =>
    simp only [cond_true]
    split
    · split
      · split
        · exact endRange_le (call_le hr _ _ _) _ _
        · exact .none _
      · exact .none _
    · exact .none _
theorem step_le (hr : LeRc r r') (c : Code) (E : Env) (s : St) : Le (stepCodeG P H r c E s) (stepCodeG P H r' c E s) := by
  cases c with
  | region id ops draw =>
    cases draw with
    | false => exact region_le (ops_le hr ops _ _ _)
    | true => exact region_le (drawn_le hr ops _ _)
  | seq a b => exact seq_le hr (hr _ _ _) b
  | cond c a b => exact cond_le hr a b _ _ _
  | block id body => exact block_le (hr _ _ _) id
  | loop body => exact seq_le hr (hr _ _ _) (.loop body)
  | scope body => exact scope_le (hr _ _ _)
  | rangeFunc f params assign body => exact range_le hr _ _ _ _ _ _
  | _ => exact .refl _

theorem run_succ : ∀ n, LeRc (runCodeG P H n) (runCodeG P H (n + 1))
  | 0 => fun _ _ _ => .none _
  | n + 1 => fun c E s => step_le (run_succ n) c E s
theorem run_le {n m : Nat} (h : n ≤ m) : LeRc (runCodeG P H n) (runCodeG P H m) := by
  induction h with
  | refl => exact fun _ _ _ => .refl _
  | step _ ih => exact fun c E s o e => run_succ _ c E s o (ih c E s o e)

/-! ### What runs through -/
variable (P H)
def Ev (c : Code) (E : Env) (S : St) (x : Ex) (E' : Env) (S' : St) : Prop := ∃ n, runCodeG P H n c E S = some ⟨x, E', S'⟩
def EvOps (ops : Array Oper) (l : List Oper) (E : Env) (S : St) (E' : Env) (S' : St) : Prop := ∃ n, runOpsG P H (runCodeG P H n) ops l E S = some (E', S')
/-- What a function comes to. -/
def EvFn (f : FuncId) (args : List Value) (S : St) (v : Value) (S' : St) : Prop := ∃ n, callG P H (runCodeG P H n) f args S = some (v, S')
variable {P H}
variable {E E1 E2 E' : Env} {S S1 S2 S' : St} {x : Ex} {ops : Array Oper} {l : List Oper} {o : Oper} {v : Value}

theorem Ev.skip : Ev P H .skip E S .normal E S := ⟨1, rfl⟩
theorem Ev.ret : Ev P H .ret E S .ret E S := ⟨1, rfl⟩
theorem Ev.exit {id : Nat} : Ev P H (.exit id) E S (.exit id) E S := ⟨1, rfl⟩
theorem Ev.region {id : Nat} (h : EvOps P H ops ops.toList E S E' S') : Ev P H (.region id ops false) E S .normal E' S' := by
  obtain ⟨n, h⟩ := h
  refine ⟨n + 1, ?_⟩
  show regionG (runOpsG P H (runCodeG P H n) ops ops.toList E S) = _
  rw [h]; rfl
theorem Ev.seq {a b : Code} (h : Ev P H a E S .normal E1 S1) (k : Ev P H b E1 S1 x E2 S2) : Ev P H (.seq a b) E S x E2 S2 := by
  obtain ⟨n, h⟩ := h
  obtain ⟨m, k⟩ := k
  refine ⟨n + m + 1, ?_⟩
  show seqG (runCodeG P H (n + m)) b (runCodeG P H (n + m) a E S) = _
  rw [run_le (by omega) a E S _ h]
  exact run_le (by omega) b E1 S1 _ k
theorem Ev.seq_out {a b : Code} (h : Ev P H a E S x E1 S1) (hx : x ≠ .normal) : Ev P H (.seq a b) E S x E1 S1 := by
  obtain ⟨n, h⟩ := h
  refine ⟨n + 1, ?_⟩
  show seqG (runCodeG P H n) b (runCodeG P H n a E S) = _
  rw [h]
  cases x <;> first | rfl | exact absurd rfl hx
theorem Ev.cond {c : Operand} {a b : Code} (d : Bool) (hc : evG E c = .bool d) (h : Ev P H (bif d then a else b) E S x E' S') : Ev P H (.cond c a b) E S x E' S' := by
  obtain ⟨n, h⟩ := h
  refine ⟨n + 1, ?_⟩
  show condG (runCodeG P H n) a b E S (evG E c) = _
  rw [hc]
  cases d <;> exact h
theorem Ev.block {id : Nat} {b : Code} (h : Ev P H b E S x E' S') (hx : ∀ i, x ≠ .exit i) : Ev P H (.block id b) E S x E' S' := by
  obtain ⟨n, h⟩ := h
  refine ⟨n + 1, ?_⟩
  show blockG id (runCodeG P H n b E S) = _
  rw [h]
  cases x <;> first | rfl | exact absurd rfl (hx _)
theorem Ev.block_exit {id : Nat} {b : Code} (h : Ev P H b E S (.exit id) E' S') : Ev P H (.block id b) E S .normal E' S' := by
  obtain ⟨n, h⟩ := h
  refine ⟨n + 1, ?_⟩
  show blockG id (runCodeG P H n b E S) = _
  rw [h]
  show (bif id.beq id then some (⟨.normal, E', S'⟩ : OutG) else some ⟨.exit id, E', S'⟩) = _
  rw [Nat.beq_refl]; rfl
theorem Ev.block_other {id i : Nat} {b : Code} (h : Ev P H b E S (.exit i) E' S') (hi : Nat.beq i id = false) : Ev P H (.block id b) E S (.exit i) E' S' := by
  obtain ⟨n, h⟩ := h
  refine ⟨n + 1, ?_⟩
  show blockG id (runCodeG P H n b E S) = _
  rw [h]
  show (bif i.beq id then some (⟨.normal, E', S'⟩ : OutG) else some ⟨.exit i, E', S'⟩) = _
  rw [hi]; rfl
theorem Ev.loop {b : Code} (h : Ev P H b E S .normal E1 S1) (k : Ev P H (.loop b) E1 S1 x E2 S2) : Ev P H (.loop b) E S x E2 S2 := by
  obtain ⟨n, h⟩ := h
  obtain ⟨m, k⟩ := k
  refine ⟨n + m + 1, ?_⟩
  show seqG (runCodeG P H (n + m)) (.loop b) (runCodeG P H (n + m) b E S) = _
  rw [run_le (by omega) b E S _ h]
  exact run_le (by omega) _ E1 S1 _ k
theorem Ev.loop_out {b : Code} (h : Ev P H b E S x E1 S1) (hx : x ≠ .normal) : Ev P H (.loop b) E S x E1 S1 := by
  obtain ⟨n, h⟩ := h
  refine ⟨n + 1, ?_⟩
  show seqG (runCodeG P H n) (.loop b) (runCodeG P H n b E S) = _
  rw [h]
  cases x <;> first | rfl | exact absurd rfl hx

theorem EvOps.nil : EvOps P H ops [] E S E S := ⟨0, rfl⟩
/-- An operation that is wanted and answers at once. -/
theorem EvOps.val (hw : wantedG ops E o = some true) (ha : Mif.aop (FP.of P) S (evG E) o = some (.val v S1)) (k : EvOps P H ops l (putG E o.dst v) S1 E' S') : EvOps P H ops (o :: l) E S E' S' := by
  obtain ⟨n, k⟩ := k
  refine ⟨n, ?_⟩
  unfold runOpsG
  rw [hw, ha]
  exact k
/-- One that is not wanted. -/
theorem EvOps.not (hw : wantedG ops E o = some false) (k : EvOps P H ops l (putG E o.dst skipV) S E' S') : EvOps P H ops (o :: l) E S E' S' := by
  obtain ⟨n, k⟩ := k
  refine ⟨n, ?_⟩
  unfold runOpsG
  rw [hw]
  exact k
/-- A call. -/
theorem EvOps.call {f : FuncId} {args : List Value} (hw : wantedG ops E o = some true) (ha : Mif.aop (FP.of P) S (evG E) o = some (.call f args S)) (hf : EvFn P H f args S v S1) (k : EvOps P H ops l (putG E o.dst v) S1 E' S') : EvOps P H ops (o :: l) E S E' S' := by
  obtain ⟨m, hf⟩ := hf
  obtain ⟨n, k⟩ := k
  refine ⟨m + n, ?_⟩
  unfold runOpsG
  rw [hw, ha]
  show thenG o.dst E (runOpsG P H (runCodeG P H (m + n)) ops l) (callG P H (runCodeG P H (m + n)) f args S) = _
  rw [call_le (run_le (by omega)) f args S _ hf]
  exact ops_le (run_le (by omega)) ops l _ _ _ k
theorem EvFn.hook {f : FuncId} {fn : Func} {args : List Value} {h : List Value → St → Option (Value × St)} (hf : P.funcs[f]? = some fn) (hh : H f = some h) (e : h args S = some (v, S')) : EvFn P H f args S v S' := by
  refine ⟨0, ?_⟩
  unfold callG
  rw [hf]
  simp only
  rw [hh]
  exact e
theorem EvFn.body {f : FuncId} {fn : Func} {args : List Value} {c : Code} (hf : P.funcs[f]? = some fn) (hh : H f = none) (hb : fn.body = some c) (hn : Nat.ble fn.ntmps 1000000 = true) (hl : Nat.ble args.length fn.ntmps = true)
    (h : Ev P H c (Env.ofArgs args fn.ntmps) S x E' S') (hx : x = .normal ∨ x = .ret) (hr : resultsG P S' fn E' = some (v, S')) : EvFn P H f args S v S' := by
  obtain ⟨n, h⟩ := h
  refine ⟨n, ?_⟩
  unfold callG
  rw [hf]
  simp only
  rw [hh]
  simp only
  rw [hb]
  simp only
  rw [hn, hl]
  simp only [Bool.and_self, cond_true]
  rw [h]
  rcases hx with rfl | rfl <;> exact hr

/-- To the machine that is right. -/
theorem EvFn.run {f : FuncId} {args : List Value} (h : EvFn P H f args S v S') : ∃ n, Mir.runFn P H n f args S = some (v, S') := by
  obtain ⟨n, h⟩ := h
  exact ⟨n, call_of P (run_of P n) f args S v S' h⟩
end
end
end Go.Mig

namespace Go.Mig
open Go Go.Mir Go.Mif Go.RowKit
noncomputable section

section
variable (P : Program) (H : Hooks) (rc : CodeFG) (ops : Array Oper) (S : St) (e : Operand → Value) (d : Option Tmp) (t : TypeId) (p : String) (a : Array Edge) (g : Option (Nat × Bool))

@[simp] theorem ops_nil (E : Env) : runOpsG P H rc ops [] E S = some (E, S) := id rfl
@[simp] theorem ops_cons (op : Op) (l : List Oper) (E : Env) : runOpsG P H rc ops (⟨d, op, t, p, a, none⟩ :: l) E S = thenG d E (runOpsG P H rc ops l) (execG P H rc (Mif.aop (FP.of P) S (evG E) ⟨d, op, t, p, a, none⟩)) := id rfl
/-- An operation under a guard: by what the guard's own operation left. -/
def guardV (ops : Array Oper) (E : Env) (j : Nat) : Value :=
  match ops.toList[j]? with
  | some oj => match oj.dst with
    | some d => E.get d
    | none => undef
  | none => undef
theorem ops_guard_yes (op : Op) (l : List Oper) (E : Env) (j : Nat) (want b : Bool) (h : guardV ops E j = .bool b) (hb : (b == want) = true) : runOpsG P H rc ops (⟨d, op, t, p, a, some (j, want)⟩ :: l) E S = thenG d E (runOpsG P H rc ops l) (execG P H rc (Mif.aop (FP.of P) S (evG E) ⟨d, op, t, p, a, some (j, want)⟩)) := by
  have hw : wantedG ops E ⟨d, op, t, p, a, some (j, want)⟩ = some true := by
    unfold wantedG guardV at *
    simp only
    rw [← Array.getElem?_toList]
    cases hj : ops.toList[j]? with
    | none => rw [hj] at h; cases h
    | some oj =>
      rw [hj] at h
      simp only at h ⊢
      cases hd : oj.dst with
      | none => rw [hd] at h; cases h
      | some d =>
        rw [hd] at h
        simp only at h ⊢
        rw [h]
        cases b <;> cases want <;> first | rfl | cases hb
  show (match wantedG ops E ⟨d, op, t, p, a, some (j, want)⟩ with | some true => _ | some false => _ | none => _) = _
  rw [hw]
theorem ops_guard_no (op : Op) (l : List Oper) (E : Env) (j : Nat) (want b : Bool) (h : guardV ops E j = .bool b) (hb : (b == want) = false) : runOpsG P H rc ops (⟨d, op, t, p, a, some (j, want)⟩ :: l) E S = runOpsG P H rc ops l (putG E d skipV) S := by
  have hw : wantedG ops E ⟨d, op, t, p, a, some (j, want)⟩ = some false := by
    unfold wantedG guardV at *
    simp only
    rw [← Array.getElem?_toList]
    cases hj : ops.toList[j]? with
    | none => rw [hj] at h; cases h
    | some oj =>
      rw [hj] at h
      simp only at h ⊢
      cases hd : oj.dst with
      | none => rw [hd] at h; cases h
      | some d =>
        rw [hd] at h
        simp only at h ⊢
        rw [h]
        cases b <;> cases want <;> first | rfl | cases hb
  show (match wantedG ops E ⟨d, op, t, p, a, some (j, want)⟩ with | some true => _ | some false => _ | none => _) = _
  rw [hw]
theorem ops_guard_skip (op : Op) (l : List Oper) (E : Env) (j : Nat) (want : Bool) (h : guardV ops E j = skipV) : runOpsG P H rc ops (⟨d, op, t, p, a, some (j, want)⟩ :: l) E S = runOpsG P H rc ops l (putG E d skipV) S := by
  have hw : wantedG ops E ⟨d, op, t, p, a, some (j, want)⟩ = some false := by
    unfold wantedG guardV at *
    simp only
    rw [← Array.getElem?_toList]
    cases hj : ops.toList[j]? with
    | none => rw [hj] at h; cases h
    | some oj =>
      rw [hj] at h
      simp only at h ⊢
      cases hd : oj.dst with
      | none => rw [hd] at h; cases h
      | some d => rw [hd] at h; simp only at h ⊢; rw [h]; rfl
  show (match wantedG ops E ⟨d, op, t, p, a, some (j, want)⟩ with | some true => _ | some false => _ | none => _) = _
  rw [hw]
@[simp] theorem then_some (E : Env) (k : Env → St → Option (Env × St)) (v : Value) : thenG d E k (some (v, S)) = k (putG E d v) S := id rfl
@[simp] theorem exec_val (v : Value) : execG P H rc (some (.val v S)) = some (v, S) := id rfl
@[simp] theorem exec_call (f : FuncId) (args : List Value) : execG P H rc (some (.call f args S)) = callG P H rc f args S := id rfl
@[simp] theorem exec_round (l : Nat) (args : List Value) : execG P H rc (some (.round l args S)) = roundG rc l args S := id rfl
theorem call_hook {P : Program} {H : Hooks} {f : FuncId} {fn : Func} {h : List Value → St → Option (Value × St)} (hf : P.funcs[f]? = some fn) (hh : H f = some h) (rc : CodeFG) (args : List Value) (S : St) : callG P H rc f args S = h args S := by
  unfold callG
  rw [hf]
  simp only
  rw [hh]
@[simp] theorem aop_move (x : Operand) : Mif.aop (FP.of P) S e ⟨d, .move x, t, p, a, g⟩ = some (.val (e x) S) := by
  exact id rfl
@[simp] theorem aop_assign (x : Operand) : Mif.aop (FP.of P) S e ⟨d, .assign x, t, p, a, g⟩ = some (.val (e x) S) := by
  exact id rfl
@[simp] theorem aop_pick (c x y : Operand) : Mif.aop (FP.of P) S e ⟨d, .pick c x y, t, p, a, g⟩ = Mir.opPick S (e c) (e x) (e y) := by
  exact id rfl
@[simp] theorem aop_alloc (u : TypeId) : Mif.aop (FP.of P) S e ⟨d, .alloc u, t, p, a, g⟩ = Mir.opAlloc P S u := by
  first | (rw [← opAlloc_of P]; rfl) | (rw [← opAlloc_of P]; show Option.map _ _ = rvs _; cases (Mif.abuiltin (FP.of P) S b ts (xs.toList.map e)) <;> rfl)
@[simp] theorem aop_box (u : TypeId) (x : Operand) : Mif.aop (FP.of P) S e ⟨d, .box u x, t, p, a, g⟩ = Mir.newVar P S u (e x).cells.toList := by
  first | (rw [← newVar_of P]; rfl) | (rw [← newVar_of P]; show Option.map _ _ = rvs _; cases (Mif.abuiltin (FP.of P) S b ts (xs.toList.map e)) <;> rfl)
@[simp] theorem aop_load (u : TypeId) (x : Operand) : Mif.aop (FP.of P) S e ⟨d, .load u x, t, p, a, g⟩ = Mir.opLoad P S u (e x) := by
  first | (rw [← opLoad_of P]; rfl) | (rw [← opLoad_of P]; show Option.map _ _ = rvs _; cases (Mif.abuiltin (FP.of P) S b ts (xs.toList.map e)) <;> rfl)
@[simp] theorem aop_store (u : TypeId) (x y : Operand) : Mif.aop (FP.of P) S e ⟨d, .store u x y, t, p, a, g⟩ = Mir.opStore P S u (e y) (e x) := by
  first | (rw [← opStore_of P]; rfl) | (rw [← opStore_of P]; show Option.map _ _ = rvs _; cases (Mif.abuiltin (FP.of P) S b ts (xs.toList.map e)) <;> rfl)
@[simp] theorem aop_nilCheck (x : Operand) : Mif.aop (FP.of P) S e ⟨d, .nilCheck x, t, p, a, g⟩ = Mir.opNilCheck S (e x) := by
  exact id rfl
@[simp] theorem aop_bin (op : BinOp) (u : TypeId) (x y : Operand) (u' : TypeId) : Mif.aop (FP.of P) S e ⟨d, .binOp op u x y u', t, p, a, g⟩ = rv S (Mir.abin P op u x y (e x) (e y)) := by
  first | (rw [← abin_of P]; rfl) | (rw [← abin_of P]; show Option.map _ _ = rvs _; cases (Mif.abuiltin (FP.of P) S b ts (xs.toList.map e)) <;> rfl)
@[simp] theorem aop_un (op : UnOp) (u : TypeId) (x : Operand) : Mif.aop (FP.of P) S e ⟨d, .unOp op u x, t, p, a, g⟩ = rv S (Mir.aun op (e x)) := by
  exact id rfl
@[simp] theorem aop_convert (s1 s2 : TypeId) (x : Operand) : Mif.aop (FP.of P) S e ⟨d, .convert s1 s2 x, t, p, a, g⟩ = rvs (Mir.aconvert P S s1 s2 (e x)) := by
  first | (rw [← aconvert_of P]; rfl) | (rw [← aconvert_of P]; show Option.map _ _ = rvs _; cases (Mif.abuiltin (FP.of P) S b ts (xs.toList.map e)) <;> rfl)
@[simp] theorem aop_iface (u : TypeId) (x : Operand) : Mif.aop (FP.of P) S e ⟨d, .makeInterface u x, t, p, a, g⟩ = Mir.opIface P S u (e x) := by
  first | (rw [← opIface_of P]; rfl) | (rw [← opIface_of P]; show Option.map _ _ = rvs _; cases (Mif.abuiltin (FP.of P) S b ts (xs.toList.map e)) <;> rfl)
@[simp] theorem aop_makeSlice (u : TypeId) (x y : Operand) : Mif.aop (FP.of P) S e ⟨d, .makeSlice u x y, t, p, a, g⟩ = Mir.opMakeSlice P S u (e x) (e y) := by
  first | (rw [← opMakeSlice_of P]; rfl) | (rw [← opMakeSlice_of P]; show Option.map _ _ = rvs _; cases (Mif.abuiltin (FP.of P) S b ts (xs.toList.map e)) <;> rfl)
@[simp] theorem aop_slice (u : TypeId) (x : Operand) (lo hi mx : Option Operand) : Mif.aop (FP.of P) S e ⟨d, .slice u x lo hi mx, t, p, a, g⟩ = rv S (Mir.aslice P S u (e x) (lo.map e) (hi.map e) (mx.map e)) := by
  first | (rw [← aslice_of P]; rfl) | (rw [← aslice_of P]; show Option.map _ _ = rvs _; cases (Mif.abuiltin (FP.of P) S b ts (xs.toList.map e)) <;> rfl)
@[simp] theorem aop_fieldAddr (u : TypeId) (x : Operand) (f : Nat) : Mif.aop (FP.of P) S e ⟨d, .fieldAddr u x f, t, p, a, g⟩ = Mir.opFieldAddr P S u f (e x) := by
  first | (rw [← opFieldAddr_of P]; rfl) | (rw [← opFieldAddr_of P]; show Option.map _ _ = rvs _; cases (Mif.abuiltin (FP.of P) S b ts (xs.toList.map e)) <;> rfl)
@[simp] theorem aop_field (u : TypeId) (x : Operand) (f : Nat) : Mif.aop (FP.of P) S e ⟨d, .field u x f, t, p, a, g⟩ = Mir.opField P S u f (e x) := by
  first | (rw [← opField_of P]; rfl) | (rw [← opField_of P]; show Option.map _ _ = rvs _; cases (Mif.abuiltin (FP.of P) S b ts (xs.toList.map e)) <;> rfl)
@[simp] theorem aop_idxA (u : TypeId) (x y : Operand) : Mif.aop (FP.of P) S e ⟨d, .indexAddr u x y, t, p, a, g⟩ = rv S (Mir.aindexAddr P u (e x) (e y)) := by
  first | (rw [← aindexAddr_of P]; rfl) | (rw [← aindexAddr_of P]; show Option.map _ _ = rvs _; cases (Mif.abuiltin (FP.of P) S b ts (xs.toList.map e)) <;> rfl)
@[simp] theorem aop_idx (u : TypeId) (x y : Operand) : Mif.aop (FP.of P) S e ⟨d, .index u x y, t, p, a, g⟩ = rv S (Mir.aindex P u (e x) (e y)) := by
  first | (rw [← aindex_of P]; rfl) | (rw [← aindex_of P]; show Option.map _ _ = rvs _; cases (Mif.abuiltin (FP.of P) S b ts (xs.toList.map e)) <;> rfl)
@[simp] theorem aop_lookup (u : TypeId) (x y : Operand) (ok : Bool) : Mif.aop (FP.of P) S e ⟨d, .lookup u x y ok, t, p, a, g⟩ = rv S (Mir.alookup P S u (e x) (e y) ok) := by
  first | (rw [← alookup_of P]; rfl) | (rw [← alookup_of P]; show Option.map _ _ = rvs _; cases (Mif.abuiltin (FP.of P) S b ts (xs.toList.map e)) <;> rfl)
@[simp] theorem aop_mapUpdate (u : TypeId) (x y z : Operand) : Mif.aop (FP.of P) S e ⟨d, .mapUpdate u x y z, t, p, a, g⟩ = ru (Mir.aupdate P S u (e x) (e y) (e z)) := by
  first | (rw [← aupdate_of P]; rfl) | (rw [← aupdate_of P]; show Option.map _ _ = rvs _; cases (Mif.abuiltin (FP.of P) S b ts (xs.toList.map e)) <;> rfl)
@[simp] theorem aop_range (u : TypeId) (x : Operand) : Mif.aop (FP.of P) S e ⟨d, .range u x, t, p, a, g⟩ = Mir.opRange P S u (e x) := by
  first | (rw [← opRange_of P]; rfl) | (rw [← opRange_of P]; show Option.map _ _ = rvs _; cases (Mif.abuiltin (FP.of P) S b ts (xs.toList.map e)) <;> rfl)
@[simp] theorem aop_next (x : Operand) (b : Bool) : Mif.aop (FP.of P) S e ⟨d, .next x b, t, p, a, g⟩ = rvs (Mir.anext S (e x) b) := by
  exact id rfl
@[simp] theorem aop_typeAssert (x : Operand) (u u' : TypeId) (ok : Bool) : Mif.aop (FP.of P) S e ⟨d, .typeAssert x u u' ok, t, p, a, g⟩ = rv S (Mir.atypeAssert P (e x) u' ok) := by
  first | (rw [← atypeAssert_of P]; rfl) | (rw [← atypeAssert_of P]; show Option.map _ _ = rvs _; cases (Mif.abuiltin (FP.of P) S b ts (xs.toList.map e)) <;> rfl)
@[simp] theorem aop_extract (x : Operand) (i : Nat) : Mif.aop (FP.of P) S e ⟨d, .extract x i, t, p, a, g⟩ = Mir.opExtract S i (e x) := by
  exact id rfl
@[simp] theorem aop_s2ap (u : TypeId) (x : Operand) : Mif.aop (FP.of P) S e ⟨d, .sliceToArrayPointer u x, t, p, a, g⟩ = Mir.opToArray P S u (e x) := by
  first | (rw [← opToArray_of P]; rfl) | (rw [← opToArray_of P]; show Option.map _ _ = rvs _; cases (Mif.abuiltin (FP.of P) S b ts (xs.toList.map e)) <;> rfl)
@[simp] theorem aop_builtin (b : Builtin) (xs : Array Operand) (ts : Array TypeId) : Mif.aop (FP.of P) S e ⟨d, .call ⟨.builtin b, xs, ts⟩, t, p, a, g⟩ = rvs (Mir.abuiltin P S b ts (xs.toList.map e)) := by
  first | (rw [← abuiltin_of P]; rfl) | (rw [← abuiltin_of P]; show Option.map _ _ = rvs _; cases (Mif.abuiltin (FP.of P) S b ts (xs.toList.map e)) <;> rfl)
@[simp] theorem aop_makeFunc (f : Fn) (xs ys : Array Operand) : Mif.aop (FP.of P) S e ⟨d, .makeFunc f xs ys, t, p, a, g⟩ = Mir.opMakeFunc S f (xs.toList.map e) (ys.toList.map e) := by
  exact id rfl
@[simp] theorem aop_call (E : Env) (f : FuncId) (xs : Array Operand) (ts : Array TypeId) : Mif.aop (FP.of P) S (evG E) ⟨d, .call ⟨.value (.func f), xs, ts⟩, t, p, a, g⟩ = some (.call f (xs.toList.map (evG E)) S) := by
  show some (ARes.call f ([] ++ xs.toList.map (evG E) ++ []) S) = _
  rw [List.append_nil]; rfl
theorem aop_callv {f : FuncId} {cs : Array Value} (x : Operand) (xs : Array Operand) (ts : Array TypeId) (h : e x = .func (.func f) #[] cs) : Mif.aop (FP.of P) S e ⟨d, .call ⟨.value x, xs, ts⟩, t, p, a, g⟩ = some (.call f (xs.toList.map e ++ cs.toList) S) := by
  show Mif.acall (FP.of P) S e ⟨.value x, xs, ts⟩ = _
  unfold Mif.acall
  simp only
  rw [h]
  simp
theorem aop_round {l : Nat} (x : Operand) (xs : Array Operand) (ts : Array TypeId) (h : e x = .func (.yield l) #[] #[]) : Mif.aop (FP.of P) S e ⟨d, .call ⟨.value x, xs, ts⟩, t, p, a, g⟩ = some (.round l (xs.toList.map e) S) := by
  show Mif.acall (FP.of P) S e ⟨.value x, xs, ts⟩ = _
  unfold Mif.acall
  simp only
  rw [h]
  simp
@[simp] theorem aop_buildSlice (E : Env) (u : TypeId) (n : Nat) (ps : Array (Nat × Operand)) : Mif.aop (FP.of P) S e ⟨d, .buildSlice u n ps, t, p, a, g⟩ = Mif.opBuildSlice (FP.of P) S e u n ps := id rfl
@[simp] theorem aop_build (E : Env) (u : TypeId) (ps : Array (Nat × Operand)) : Mif.aop (FP.of P) S e ⟨d, .build u ps, t, p, a, g⟩ = Mif.opBuild (FP.of P) S e u ps := id rfl
end

@[simp] theorem ev_tmp (E : Env) (t : Nat) : evG E (.tmp t) = E.get t := id rfl
@[simp] theorem ev_int (E : Env) (k : IntKind) (n : Int) : evG E (.const (.int k n)) = .int k n := id rfl
@[simp] theorem ev_bool (E : Env) (b : Bool) : evG E (.const (.bool b)) = .bool b := id rfl
@[simp] theorem ev_string (E : Env) (b : ByteArray) : evG E (.const (.string b)) = .string b := id rfl
@[simp] theorem ev_nilslice (E : Env) (l c : Nat) : evG E (.const (.slice none l c)) = .slice none l c := id rfl
@[simp] theorem ev_nilptr (E : Env) : evG E (.const (.pointer none)) = .pointer none := id rfl
@[simp] theorem ev_nilfunc (E : Env) : evG E (.const .nilFunc) = .nilFunc := id rfl
@[simp] theorem put_some (n : Nat) (f : Nat → Value) (d : Nat) (v : Value) : putG ⟨n, f⟩ (some d) v = ⟨n, upd f d v⟩ := id rfl
@[simp] theorem put_none (E : Env) (v : Value) : putG E none v = E := id rfl
@[simp] theorem get_env (n : Nat) (f : Nat → Value) (t : Nat) (h : t < n) : Env.get ⟨n, f⟩ t = f t := by show (bif Nat.blt t n then f t else undef) = f t; rw [blt_true h]; rfl
@[simp] theorem upd_same (f : Nat → Value) (d : Nat) (v : Value) : upd f d v d = v := by show (bif Nat.beq d d then v else f d) = v; rw [Nat.beq_refl]; rfl
@[simp] theorem upd_ne (f : Nat → Value) (d : Nat) (v : Value) (i : Nat) (h : i ≠ d) : upd f d v i = f i := by show (bif Nat.beq i d then v else f i) = f i; rw [beq_false h]; rfl
@[simp] theorem rv_some (S : St) (v : Value) : rv S (some v) = some (.val v S) := id rfl
@[simp] theorem rvs_some (S : St) (v : Value) : rvs (some (v, S)) = some (.val v S) := id rfl
@[simp] theorem ru_some (S : St) : ru (some S) = some (.val undef S) := id rfl
@[simp] theorem withSt_some (S : St) (v : Value) : withSt S (some v) = some (v, S) := id rfl
theorem pick_true (S : St) (x y : Value) : Mir.opPick S (.bool true) x y = some (.val x S) := rfl
theorem pick_false (S : St) (x y : Value) : Mir.opPick S (.bool false) x y = some (.val y S) := rfl
@[simp] theorem pick_bool (S : St) (b : Bool) (x y : Value) : Mir.opPick S (.bool b) x y = some (.val (bif b then x else y) S) := by cases b <;> rfl

/-! ### Numbers -/
@[simp] theorem abin_int (P : Program) (op : BinOp) (t : TypeId) (x y : Operand) (k k' : IntKind) (m n : Int) : Mir.abin P op t x y (.int k m) (.int k' n) = Mir.aint op k m k' n := id rfl
@[simp] theorem abin_str (P : Program) (op : BinOp) (t : TypeId) (x y : Operand) (m n : ByteArray) : Mir.abin P op t x y (.string m) (.string n) = Mir.astr op m.data.toList n.data.toList := id rfl
theorem intLt_eq (a b : Int) : Mir.intLt a b = decide (a < b) := by
  cases a with
  | ofNat m => cases b with
    | ofNat n => rw [Bool.eq_iff_iff]; simp only [Mir.intLt, Nat.blt_eq, decide_eq_true_eq]; exact ⟨fun h => Int.ofNat_lt.2 h, fun h => Int.ofNat_lt.1 h⟩
    | negSucc n => simp only [Mir.intLt]; symm; simp <;> omega
  | negSucc m => cases b with
    | ofNat n => simp only [Mir.intLt]; symm; simp <;> omega
    | negSucc n => rw [Bool.eq_iff_iff]; simp only [Mir.intLt, Nat.blt_eq, decide_eq_true_eq]; omega
theorem intEq_eq (a b : Int) : Mir.intEq a b = decide (a = b) := by
  cases a with
  | ofNat m => cases b with
    | ofNat n => rw [Bool.eq_iff_iff]; simp only [Mir.intEq, Nat.beq_eq, decide_eq_true_eq]; exact ⟨fun h => by rw [h], fun h => Int.ofNat.inj h⟩
    | negSucc n => simp only [Mir.intEq]; symm; simp <;> omega
  | negSucc m => cases b with
    | ofNat n => simp only [Mir.intEq]; symm; simp <;> omega
    | negSucc n => rw [Bool.eq_iff_iff]; simp only [Mir.intEq, Nat.beq_eq, decide_eq_true_eq]; omega
theorem kindEq_refl (k : IntKind) : Mir.kindEq k k = true := by cases k <;> rfl
@[simp] theorem aint_eql (k : IntKind) (m n : Int) : Mir.aint .eql k m k n = some (.bool (decide (m = n))) := by
  show (bif Mir.kindEq k k then some (Value.bool (Mir.intEq m n)) else none) = _
  rw [kindEq_refl, intEq_eq]; rfl
@[simp] theorem aint_neq (k : IntKind) (m n : Int) : Mir.aint .neq k m k n = some (.bool (!decide (m = n))) := by
  show (bif Mir.kindEq k k then some (Value.bool (!(Mir.intEq m n))) else none) = _
  rw [kindEq_refl, intEq_eq]; rfl
@[simp] theorem aint_lss (k : IntKind) (m n : Int) : Mir.aint .lss k m k n = some (.bool (decide (m < n))) := by
  show (bif Mir.kindEq k k then some (Value.bool (Mir.intLt m n)) else none) = _
  rw [kindEq_refl, intLt_eq]; rfl
@[simp] theorem aint_gtr (k : IntKind) (m n : Int) : Mir.aint .gtr k m k n = some (.bool (decide (n < m))) := by
  show (bif Mir.kindEq k k then some (Value.bool (Mir.intLt n m)) else none) = _
  rw [kindEq_refl, intLt_eq]; rfl
@[simp] theorem aint_leq (k : IntKind) (m n : Int) : Mir.aint .leq k m k n = some (.bool (decide (m ≤ n))) := by
  show (bif Mir.kindEq k k then some (Value.bool (!(Mir.intLt n m))) else none) = _
  rw [kindEq_refl, intLt_eq]
  have : (!decide (n < m)) = decide (m ≤ n) := by rw [Bool.eq_iff_iff]; simp
  show some (Value.bool (!decide (n < m))) = _; rw [this]
@[simp] theorem aint_geq (k : IntKind) (m n : Int) : Mir.aint .geq k m k n = some (.bool (decide (n ≤ m))) := by
  show (bif Mir.kindEq k k then some (Value.bool (!(Mir.intLt m n))) else none) = _
  rw [kindEq_refl, intLt_eq]
  have : (!decide (m < n)) = decide (n ≤ m) := by rw [Bool.eq_iff_iff]; simp
  show some (Value.bool (!decide (m < n))) = _; rw [this]
@[simp] theorem aint_add (k : IntKind) (m n : Int) : Mir.aint .add k m k n = some (.int k (wrapA k (m + n))) := by unfold Mir.aint; rw [kindEq_refl]; rfl
@[simp] theorem aint_sub (k : IntKind) (m n : Int) : Mir.aint .sub k m k n = some (.int k (wrapA k (m - n))) := by unfold Mir.aint; rw [kindEq_refl]; rfl
@[simp] theorem aint_mul (k : IntKind) (m n : Int) : Mir.aint .mul k m k n = some (.int k (wrapA k (m * n))) := by unfold Mir.aint; rw [kindEq_refl]; rfl
theorem wrap_i64 {n : Int} (h0 : -9223372036854775808 ≤ n) (h1 : n ≤ 9223372036854775807) : wrapA .i64 n = n := by
  unfold wrapA
  cases n with
  | ofNat m =>
    have : m ≤ 9223372036854775807 := by have : (m : Int) ≤ 9223372036854775807 := h1; omega
    simp only [lowOf, ofLow, pow2]
    rw [Nat.mod_eq_of_lt (by omega)]
    have hb : Nat.ble 18446744073709551616 (2 * m) = false := by rw [Bool.eq_false_iff]; intro e; have := Nat.le_of_ble_eq_true e; omega
    rw [hb]; rfl
  | negSucc m =>
    have : m ≤ 9223372036854775807 := by have : -9223372036854775808 ≤ Int.negSucc m := h0; omega
    simp only [lowOf, ofLow, pow2]
    rw [Nat.mod_eq_of_lt (by omega)]
    have hb : Nat.ble 18446744073709551616 (2 * (18446744073709551616 - 1 - m)) = true := Nat.ble_eq_true_of_le (by omega)
    rw [hb]
    show Int.negSucc _ = _
    congr 1; omega
theorem wrap_i32 {n : Int} (h0 : -2147483648 ≤ n) (h1 : n ≤ 2147483647) : wrapA .i32 n = n := by
  unfold wrapA
  cases n with
  | ofNat m =>
    have : m ≤ 2147483647 := by have : (m : Int) ≤ 2147483647 := h1; omega
    simp only [lowOf, ofLow, pow2]
    rw [Nat.mod_eq_of_lt (by omega)]
    have hb : Nat.ble 4294967296 (2 * m) = false := by rw [Bool.eq_false_iff]; intro e; have := Nat.le_of_ble_eq_true e; omega
    rw [hb]; rfl
  | negSucc m =>
    have : m ≤ 2147483647 := by have : -2147483648 ≤ Int.negSucc m := h0; omega
    simp only [lowOf, ofLow, pow2]
    rw [Nat.mod_eq_of_lt (by omega)]
    have hb : Nat.ble 4294967296 (2 * (4294967296 - 1 - m)) = true := Nat.ble_eq_true_of_le (by omega)
    rw [hb]
    show Int.negSucc _ = _
    congr 1; omega
theorem wrap_u8 (m : Nat) : wrapA .u8 (m : Int) = ((m % 256 : Nat) : Int) := rfl
theorem wrap_u64 (m : Nat) : wrapA .u64 (m : Int) = ((m % 18446744073709551616 : Nat) : Int) := rfl
@[simp] theorem aun_not (b : Bool) : Mir.aun .not (.bool b) = some (.bool !b) := id rfl

/-! ### Memory -/
theorem addr_add (b o k : Nat) : (⟨b, o, none⟩ : Addr).add k = ⟨b, o + k, none⟩ := by
  unfold Addr.add
  by_cases h : k = 0
  · subst h; rfl
  · rw [if_neg h]
theorem idxA_slice {P : Program} {t e sz : Nat} (h1 : P.underlying t = some (.slice e)) (h2 : Mir.sizeT P e = some sz) (b o n c i : Nat) (k : IntKind) (h : i < n) : Mir.aindexAddr P t (.slice (some ⟨b, o, none⟩) n c) (.int k (i : Int)) = some (.pointer (some ⟨b, o + i * sz, none⟩)) := by
  show Mir.aindexAddr P t (.slice (some ⟨b, o, none⟩) n c) (.int k (.ofNat i)) = _
  unfold Mir.aindexAddr
  rw [h1]
  simp only [h2, blt_true h, cond_true, Option.map_some, addr_add]
theorem load_one {P : Program} {t : Nat} (h1 : Mir.aggT P t = some false) (S : St) (a : Addr) : Mir.opLoad P S t (.pointer (some a)) = rv S (cellAt S a) := by
  unfold Mir.opLoad Mir.loadT
  rw [h1]
theorem idx_string {P : Program} {t : Nat} (h1 : P.underlying t = some .string) (s : ByteArray) (i : Nat) (k : IntKind) (c : UInt8) (h : s.data.toList[i]? = some c) : Mir.aindex P t (.string s) (.int k (i : Int)) = some (.int .u8 (c.toNat : Int)) := by
  show Mir.aindex P t (.string s) (.int k (.ofNat i)) = _
  unfold Mir.aindex
  rw [h1]
  simp only [h, Option.map_some]
theorem len_string {P : Program} {t : Nat} (h1 : P.underlying t = some .string) (S : St) (s : ByteArray) : Mir.abuiltin P S .len #[t] [.string s] = some (.int .i64 (s.data.toList.length : Int), S) := by
  show intOfNat? S (Mir.lenOfA P S t (.string s)) = _
  unfold Mir.lenOfA
  rw [h1]; rfl
theorem len_slice {P : Program} {t e : Nat} (h1 : P.underlying t = some (.slice e)) (S : St) (a : Option Addr) (n c : Nat) : Mir.abuiltin P S .len #[t] [.slice a n c] = some (.int .i64 (n : Int), S) := by
  show intOfNat? S (Mir.lenOfA P S t (.slice a n c)) = _
  unfold Mir.lenOfA
  rw [h1]; rfl
@[simp] theorem min_two (P : Program) (S : St) (ts : Array TypeId) (k : IntKind) (m n : Int) : Mir.abuiltin P S .min ts [.int k m, .int k n] = some (.int k (if n < m then n else m), S) := by
  show withSt S (extremeA false [.int k m, .int k n]) = _
  show withSt S (some (Value.int k (bif Mir.intLt n m then n else m))) = _
  rw [intLt_eq]
  by_cases h : n < m
  · rw [if_pos h, decide_eq_true h]; rfl
  · rw [if_neg h, decide_eq_false h]; rfl
@[simp] theorem max_two (P : Program) (S : St) (ts : Array TypeId) (k : IntKind) (m n : Int) : Mir.abuiltin P S .max ts [.int k m, .int k n] = some (.int k (if m < n then n else m), S) := by
  show withSt S (extremeA true [.int k m, .int k n]) = _
  show withSt S (some (Value.int k (bif Mir.intLt m n then n else m))) = _
  rw [intLt_eq]
  by_cases h : m < n
  · rw [if_pos h, decide_eq_true h]; rfl
  · rw [if_neg h, decide_eq_false h]; rfl
theorem extract_tuple (S : St) (xs : Array Value) (i : Nat) (v : Value) (h : xs.toList[i]? = some v) : Mir.opExtract S i (.tuple xs) = some (.val v S) := by
  show rv S (xs.toList[i]?) = _
  rw [h]; rfl
theorem guardV_at (ops : Array Oper) (n : Nat) (f : Nat → Value) (j d : Nat) (h : (ops.toList[j]?).map (·.dst) = some (some d)) (hd : d < n) : guardV ops ⟨n, f⟩ j = f d := by
  unfold guardV
  cases hj : ops.toList[j]? with
  | none => rw [hj] at h; cases h
  | some oj =>
    rw [hj] at h
    simp only [Option.map_some, Option.some.injEq] at h
    simp only [h]
    exact get_env n f d hd
end
end Go.Mig

namespace Go.Mig
open Go Go.Mir Go.Mif Go.RowKit
noncomputable section

def addHook (H : Hooks) (f : FuncId) (h : List Value → St → Option (Value × St)) : Hooks := fun n => bif Nat.beq n f then some h else H n

section
variable {P : Program} {W0 : World} {H : Hooks}

theorem addHook_kept (hk : HookKept H) {f : FuncId} {h : List Value → St → Option (Value × St)} (hh : ∀ args S v S', h args S = some (v, S') → Kept S S') : HookKept (addHook H f h) := by
  intro g k hg args S v S' e
  unfold addHook at hg
  cases hb : Nat.beq g f with
  | true => rw [hb] at hg; cases hg; exact hh _ _ _ _ e
  | false => rw [hb] at hg; exact hk g k hg _ _ _ _ e

theorem addHook_ok (hk : HookOk P W0 H) {f : FuncId} {h : List Value → St → Option (Value × St)}
    (hh : ∀ args S v S', h args S = some (v, S') → ∀ ρ w args', Rel P ρ S w → Old W0 ρ S w → LRel ρ args args' → CallOk P f args' w (Post P ρ S w v S')) : HookOk P W0 (addHook H f h) := by
  intro g k hg args S v S' e
  unfold addHook at hg
  cases hb : Nat.beq g f with
  | true =>
    rw [hb] at hg; cases hg
    obtain rfl := Nat.eq_of_beq_eq_true hb
    exact hh _ _ _ _ e
  | false => rw [hb] at hg; exact hk g k hg _ _ _ _ e

/-- What runs through is what the code does. -/
theorem EvFn.ok (R : Ready P) (hH : HookOk P W0 H) (hHk : HookKept H) {f : FuncId} {args : List Value} {S S' : St} {v : Value} (h : EvFn P H f args S v S') {ρ : Ren} {w : World} {args' : List Value}
    (hR : Rel P ρ S w) (hO : Old W0 ρ S w) (hA : LRel ρ args args') : CallOk P f args' w (Post P ρ S w v S') := by
  obtain ⟨n, h⟩ := h.run
  exact callA_sim R.names hH (run_ok R.names hH hHk R.mixed n) hR hO hA h

theorem EvFn.kept (hHk : HookKept H) {f : FuncId} {args : List Value} {S S' : St} {v : Value} (h : EvFn P H f args S v S') : Kept S S' := by
  obtain ⟨n, h⟩ := h.run
  exact callA_kept hHk (runCode_kept hHk n) h

theorem CallOk.calls (R : Ready P) {f : FuncId} {fn : Func} {args : List Value} {w : World} {Q : Value → World → Prop} (hf : P.funcs[f]? = some fn) (hb : fn.body.isSome = true) (h : CallOk P f args w Q) :
    Calls P f ⟨args⟩ w fun e w' => ∃ v, e = .returned v ∧ Q v w' := by
  rcases h with ⟨_, _, _, _, hc⟩ | ⟨v, w', e, _⟩
  · exact hc
  · rw [callFunc_enter hf hb (R.names f fn hf hb)] at e
    cases e
end

/-! ### Arguments -/
/-- A plain value; or a slice of so many elements of plain cells. -/
inductive Arg where
  | v (x : Value)
  | s (n : Nat) (cs : List Value)

/-- An abstract value, read as an argument: of an element's cells, if it is a slice. -/
def decA (S : St) : Option Nat → Value → Option Arg
  | none, x => bif plainV x then some (.v x) else none
  | some sz, .slice none l c => bif Nat.beq l 0 && Nat.beq c 0 then some (.s 0 []) else none
  | some sz, .slice (some a) l c => bif Nat.beq l 0 then some (.s 0 []) else match cellsAt S a (l * sz) with
    | some cs => bif cs.all plain1 && Nat.ble l c then some (.s l cs) else none
    | none => none
  | some _, _ => none
def decAll (S : St) : List (Option Nat) → List Value → Option (List Arg)
  | [], [] => some []
  | z :: zs, x :: xs => match decA S z x, decAll S zs xs with
    | some d, some ds => some (d :: ds)
    | _, _ => none
  | _, _ => none

/-- A concrete value, read as an argument. -/
inductive DecAt (w : World) : Option Nat → Arg → Value → Prop
  | v (x : Value) (h : plainV x = true) : DecAt w none (.v x) x
  | nil (sz : Nat) : DecAt w (some sz) (.s 0 []) (.slice none 0 0)
  | zero (sz : Nat) (a : Addr) : DecAt w (some sz) (.s 0 []) (.slice (some a) 0 0)
  | zeroC (sz b o c : Nat) (hb : b < w.heap.size) : DecAt w (some sz) (.s 0 []) (.slice (some ⟨b, o, none⟩) 0 c)
  | some (sz n : Nat) (cs : List Value) (b o c : Nat) (C : Array Value) (e : TypeId) (F : Nat × Nat) (hcap : n ≤ c) (hp : cs.all plain1 = true) (hl : cs.length = n * sz) (hw : w.heap[b]? = some (.cells C e F)) (hc : ∀ i x, cs[i]? = some x → C.toList[o + i]? = some x) :
      DecAt w (some sz) (.s n cs) (.slice (some ⟨b, o, none⟩) n c)
inductive DecAll (w : World) : List (Option Nat) → List Arg → List Value → Prop
  | nil : DecAll w [] [] []
  | cons {z d x zs ds xs} (h : DecAt w z d x) (t : DecAll w zs ds xs) : DecAll w (z :: zs) (d :: ds) (x :: xs)

/-- A function of such arguments that answers plain values by g, and turns nothing that is there. -/
def PureDec (P : Program) (W0 : World) (f : FuncId) (sig : List (Option Nat)) (g : List Arg → Option Value) : Prop :=
  ∀ ds v, g ds = some v → plainR v = true ∧ ∀ w args', (∀ k, k < W0.heap.size → w.heap[k]? = W0.heap[k]?) → W0.heap.size ≤ w.heap.size → DecAll w sig ds args' → Calls P f ⟨args'⟩ w fun e w' => e = .returned v ∧ Below w.heap.size w w'

def hDec (sig : List (Option Nat)) (g : List Arg → Option Value) (args : List Value) (s : St) : Option (Value × St) :=
  match decAll s sig args with
  | some ds => withSt s (g ds)
  | none => none

section
variable {P : Program} {W0 : World} {H : Hooks} {ρ : Ren} {S S' : St} {w : World}

theorem hDec_kept {sig : List (Option Nat)} {g : List Arg → Option Value} {args : List Value} {v : Value} (h : hDec sig g args S = some (v, S')) : Kept S S' := by
  unfold hDec at h
  split at h
  · rename_i ds _
    cases hg : g ds with
    | none => rw [hg] at h; cases h
    | some u => rw [hg] at h; cases h; exact .refl _
  · cases h

theorem decA_sim (hR : Rel P ρ S w) {z : Option Nat} {x y : Value} {d : Arg} (hv : VRel ρ x y) (h : decA S z x = some d) : DecAt w z d y := by
  unfold decA at h
  split at h
  · obtain ⟨hp, h⟩ := cond_some' h
    cases h
    rw [VRel.of_plain hp hv]; exact .v _ hp
  · rename_i sz l c
    obtain ⟨hp, h⟩ := cond_some' h
    cases h
    simp only [Bool.and_eq_true] at hp
    obtain rfl := Nat.eq_of_beq_eq_true hp.1
    obtain rfl := Nat.eq_of_beq_eq_true hp.2
    cases hv; exact .nil sz
  · rename_i sz a l c
    cases hz : Nat.beq l 0 with
    | true =>
      rw [hz] at h; cases h
      obtain rfl := Nat.eq_of_beq_eq_true hz
      cases hv with
      | slice0 _ a' => exact .zero sz a'
      | slice b o _ _ c' p hb hcc => exact .zeroC sz _ _ c' (hR.dom b p hb).2
    | false =>
    rw [hz] at h
    simp only [cond_false] at h
    have hl0 : l ≠ 0 := fun e => by subst e; cases hz
    split at h
    · rename_i cs hcs
      obtain ⟨hp, h⟩ := cond_some' h
      cases h
      rw [Bool.and_eq_true] at hp
      obtain ⟨hp, hcap⟩ := hp
      have hcap := Nat.le_of_ble_eq_true hcap
      cases hv with
      | slice0 _ a' => exact absurd rfl hl0
      | slice b o _ _ c' p hb hcc =>
        have hc2 : l ≤ c' := by rcases hcc with rfl | ⟨_, h, _⟩ <;> omega
        unfold cellsAt at hcs
        simp only at hcs
        cases hr : S.row b with
        | none => rw [hr] at hcs; cases hcs
        | some row =>
          rw [hr] at hcs
          obtain ⟨hle, hcs⟩ := cond_some' hcs
          cases hcs
          have hle := Nat.le_of_ble_eq_true hle
          obtain ⟨C, e, F, hw, hC, _⟩ := hR.row hb hr
          refine .some sz l _ p.blk (p.off + o) c' C e F hc2 hp (by simp; omega) hw fun i x hx => ?_
          have hi : i < l * sz := by
            have := (List.getElem?_eq_some_iff.1 hx).1
            simp at this; omega
          have hx2 : row[o + i]? = some x := by
            rw [List.getElem?_take] at hx
            rw [if_pos hi, List.getElem?_drop] at hx
            exact hx
          obtain ⟨y, hy, hv⟩ := hC _ _ hx2
          have hp1 : plain1 x = true := List.all_eq_true.1 hp x (List.mem_of_getElem? hx)
          rw [VRel.of_plain1 hp1 hv, ← Nat.add_assoc] at hy
          exact hy
    · cases h
  · cases h

theorem decAll_sim (hR : Rel P ρ S w) : ∀ (zs : List (Option Nat)) (xs ys : List Value) (ds : List Arg), LRel ρ xs ys → decAll S zs xs = some ds → DecAll w zs ds ys
  | [], [], ys, ds, hl, h => by
    cases h
    obtain rfl := hl.inv_nil
    exact .nil
  | [], _ :: _, _, _, _, h => by cases h
  | _ :: _, [], _, _, _, h => by cases h
  | z :: zs, x :: xs, ys, ds, hl, h => by
    obtain ⟨y, ys', rfl, h1, h2⟩ := hl.inv_cons
    unfold decAll at h
    cases hd : decA S z x with
    | none => rw [hd] at h; cases h
    | some d =>
      rw [hd] at h
      cases hds : decAll S zs xs with
      | none => rw [hds] at h; cases h
      | some ds' =>
        rw [hds] at h; cases h
        exact .cons (decA_sim hR h1 hd) (decAll_sim hR zs xs ys' ds' h2 hds)

theorem Old.heap (hO : Old W0 ρ S w) : ∀ k, k < W0.heap.size → w.heap[k]? = W0.heap[k]? := fun k hk => (hO k hk).2
theorem Old.size (hO : Old W0 ρ S w) : W0.heap.size ≤ w.heap.size := by
  by_cases h : W0.heap.size = 0
  · omega
  · have := (hO (W0.heap.size - 1) (by omega)).1.lt
    omega

theorem hDec_ok (R : Ready P) {f : FuncId} {fn : Func} (hf : P.funcs[f]? = some fn) (hb : fn.body.isSome = true) {sig : List (Option Nat)} {g : List Arg → Option Value} (hg : PureDec P W0 f sig g)
    {args args' : List Value} {v : Value} (h : hDec sig g args S = some (v, S')) (hR : Rel P ρ S w) (hO : Old W0 ρ S w) (hA : LRel ρ args args') : CallOk P f args' w (Post P ρ S w v S') := by
  unfold hDec at h
  split at h
  · rename_i ds hds
    cases hu : g ds with
    | none => rw [hu] at h; cases h
    | some u =>
      rw [hu] at h; cases h
      obtain ⟨h2, h3⟩ := hg ds v hu
      refine .inl ⟨fn, hf, hb, R.names f fn hf hb, Calls.mono (h3 w args' (Old.heap hO) (Old.size hO) (decAll_sim hR _ _ _ _ hA hds)) ?_⟩
      rintro e w' ⟨rfl, hbw⟩
      obtain ⟨r1, r2⟩ := hR.below hbw
      exact ⟨_, rfl, ρ, .plainR ρ h2, r1, r2⟩
  · cases h

/-! ### From a run -/
/-- No block may be written. -/
def NoRw (S : St) : Prop := ∀ b x, S.get b = some x → x.rw = false

theorem push_ro (hR : Rel P ρ S w) (hS : NoRw S) (hn : S.next ≤ 1073741823) {b o : Nat} {C : Array Value} {e0 : TypeId} {F : Nat × Nat} {cs : List Value} {e sz : Nat} (hw : w.heap[b]? = some (.cells C e0 F)) (hp : cs.all plain1 = true)
    (hc : ∀ i x, cs[i]? = some x → C.toList[o + i]? = some x) (he : (P.info? e).map (·.size) = some sz) :
    Rel P (ρ.add S.next ⟨b, o, cs.length, 0, sz⟩) (S.push (.ro cs e)) w ∧ NoRw (S.push (.ro cs e)) := by
  have hnone := hR.none_next
  have hle := Ren.le_add (⟨b, o, cs.length, 0, sz⟩ : Mir.Place) hnone
  have lt : S.next < 1073741824 := by omega
  have hbs : b < w.heap.size := (Array.getElem?_eq_some_iff.1 hw).1
  have inv : ∀ k q, ρ.add S.next ⟨b, o, cs.length, 0, sz⟩ k = some q → (k = S.next ∧ q = ⟨b, o, cs.length, 0, sz⟩) ∨ (k ≠ S.next ∧ ρ k = some q) := by
    intro k q hk
    unfold Ren.add at hk
    by_cases e : k = S.next
    · rw [if_pos e] at hk; cases hk; exact .inl ⟨e, rfl⟩
    · rw [if_neg e] at hk; exact .inr ⟨e, hk⟩
  have nrw : NoRw (S.push (.ro cs e)) := by
    intro k x hx
    rw [St.get_push _ lt] at hx
    by_cases e : k = S.next
    · rw [if_pos e] at hx; cases hx; rfl
    · rw [if_neg e] at hx; exact hS k x hx
  refine ⟨⟨?_, ?_, ?_, ?_, by simp; omega⟩, nrw⟩
  · intro k q hk
    rcases inv k q hk with ⟨rfl, rfl⟩ | ⟨_, hk'⟩
    · exact ⟨by simp, hbs⟩
    · have := hR.dom k q hk'; exact ⟨by simp; omega, this.2⟩
  · intro k q y hk hy
    rw [St.get_push _ lt] at hy
    rcases inv k q hk with ⟨rfl, rfl⟩ | ⟨e, hk'⟩
    · rw [if_pos rfl] at hy; cases hy
      refine ⟨C, e0, F, hw, rfl, fun i x hx => ⟨x, hc i x hx, ?_⟩, he, rfl⟩
      exact .plain1 _ (List.all_eq_true.1 hp x (List.mem_of_getElem? hx))
    · rw [if_neg e] at hy
      exact (hR.blk k q y hk' hy).mono hle
  · intro k k' q q' y y' hk hk' hy hy' hr _ _
    rw [nrw k y hy] at hr; cases hr
  · intro k hk
    simp at hk
    rw [St.get_push _ lt, if_neg (by omega)]
    exact hR.fresh k (by omega)

/-- An abstract state that holds just what the arguments read. -/
inductive Holds (P : Program) (S : St) : Option Nat → Arg → Value → Prop
  | v (x : Value) (h : plainV x = true) : Holds P S none (.v x) x
  | nil (sz : Nat) : Holds P S (some sz) (.s 0 []) (.slice none 0 0)
  | zero (sz : Nat) (a : Addr) (c : Nat) : Holds P S (some sz) (.s 0 []) (.slice (some a) 0 c)
  | some (sz n : Nat) (cs : List Value) (b c e : Nat) (hcap : n ≤ c) (hp : cs.all plain1 = true) (hl : cs.length = n * sz) (hg : S.get b = some (.ro cs e)) : Holds P S (some sz) (.s n cs) (.slice (some ⟨b, 0, none⟩) n c)
inductive HoldsAll (P : Program) (S : St) : List (Option Nat) → List Arg → List Value → Prop
  | nil : HoldsAll P S [] [] []
  | cons {z d x zs ds xs} (h : Holds P S z d x) (t : HoldsAll P S zs ds xs) : HoldsAll P S (z :: zs) (d :: ds) (x :: xs)

theorem Holds.push {z : Option Nat} {d : Arg} {x : Value} (h : Holds P S z d x) (hf : ∀ b, S.next ≤ b → S.get b = none) (hn : S.next < 1073741824) (y : ABlk) : Holds P (S.push y) z d x := by
  cases h with
  | v x h => exact .v x h
  | nil sz => exact .nil sz
  | zero sz a c => exact .zero sz a c
  | some sz n cs b c e hcap hp hl hg =>
    refine .some sz n cs b c e hcap hp hl ?_
    rw [St.get_push _ hn, if_neg, hg]
    intro e; subst e
    rw [hf _ (Nat.le_refl _)] at hg; cases hg
theorem HoldsAll.push {zs : List (Option Nat)} {ds : List Arg} {xs : List Value} (h : HoldsAll P S zs ds xs) (hf : ∀ b, S.next ≤ b → S.get b = none) (hn : S.next < 1073741824) (y : ABlk) : HoldsAll P (S.push y) zs ds xs := by
  induction h with
  | nil => exact .nil
  | cons h _ ih => exact .cons (h.push hf hn y) ih

/-- From what lies in a world: a state that holds it. 'es': an element type for each slice. -/
theorem holds_of (hg : P.globals.size + 8 ≤ 1073741000) (w : World) : ∀ (zs : List (Option Nat)) (ds : List Arg) (ys : List Value), DecAll w zs ds ys → zs.length ≤ 100 → (∀ sz, some sz ∈ zs → ∃ e, (P.info? e).map (·.size) = some sz) →
    ∃ S ρ xs, Rel P ρ S w ∧ NoRw S ∧ S.next ≤ P.globals.size + 8 + zs.length ∧ HoldsAll P S zs ds xs ∧ LRel ρ xs ys
  | _, _, _, .nil, _, _ => ⟨Mir.start P, fun _ => none, [], start_rel (Nat.ble_eq_true_of_le (by omega)) w, fun b x h => (by cases h), Nat.le_refl _, .nil, .nil _⟩
  | _, _, _, .cons (z := z) (zs := zs) (ds := ds) (xs := ys) h t, hl, he => by
    simp only [List.length_cons] at hl
    obtain ⟨S, ρ, xs, hR, hS, hn, hH, hL⟩ := holds_of hg w zs ds ys t (by omega) (fun sz hz => he sz (List.mem_cons_of_mem _ hz))
    cases h with
    | v x h => exact ⟨S, ρ, _ :: xs, hR, hS, by simp; omega, .cons (.v _ h) hH, .cons (.plain ρ h) hL⟩
    | nil sz => exact ⟨S, ρ, _ :: xs, hR, hS, by simp; omega, .cons (.nil sz) hH, .cons (.sliceNil 0 0) hL⟩
    | zero sz a => exact ⟨S, ρ, .slice (some a) 0 0 :: xs, hR, hS, by simp; omega, .cons (.zero sz a 0) hH, .cons (.slice0 a a) hL⟩
    | zeroC sz b o c hb =>
      have hn2 : S.next < 1073741824 := by omega
      have hnone := hR.none_next
      have hle := Ren.le_add (⟨b, o, 0, 0, 1⟩ : Mir.Place) hnone
      have inv : ∀ k q, ρ.add S.next ⟨b, o, 0, 0, 1⟩ k = some q → (k = S.next ∧ q = ⟨b, o, 0, 0, 1⟩) ∨ (k ≠ S.next ∧ ρ k = some q) := by
        intro k q hk
        unfold Ren.add at hk
        by_cases e : k = S.next
        · rw [if_pos e] at hk; cases hk; exact .inl ⟨e, rfl⟩
        · rw [if_neg e] at hk; exact .inr ⟨e, hk⟩
      have nrw : NoRw (S.push .dead) := by
        intro k x hx
        rw [St.get_push _ hn2] at hx
        by_cases e : k = S.next
        · rw [if_pos e] at hx; cases hx; rfl
        · rw [if_neg e] at hx; exact hS k x hx
      refine ⟨S.push .dead, ρ.add S.next ⟨b, o, 0, 0, 1⟩, .slice (some ⟨S.next, 0, none⟩) 0 c :: xs, ⟨?_, ?_, ?_, ?_, by simp; omega⟩, nrw, by simp; omega, .cons (.zero sz _ c) (hH.push hR.fresh hn2 _), .cons ?_ (hL.mono hle)⟩
      · intro k q hk
        rcases inv k q hk with ⟨rfl, rfl⟩ | ⟨_, hk'⟩
        · exact ⟨by simp, hb⟩
        · have := hR.dom k q hk'; exact ⟨by simp; omega, this.2⟩
      · intro k q y hk hy
        rw [St.get_push _ hn2] at hy
        rcases inv k q hk with ⟨rfl, rfl⟩ | ⟨e, hk'⟩
        · rw [if_pos rfl] at hy; cases hy; exact trivial
        · rw [if_neg e] at hy; exact (hR.blk k q y hk' hy).mono hle
      · intro k k' q q' y y' hk hk' hy hy' hr _ _
        rw [nrw k y hy] at hr; cases hr
      · intro k hk
        simp at hk
        rw [St.get_push _ hn2, if_neg (by omega)]
        exact hR.fresh k (by omega)
      · have := VRel.slice (ρ := ρ.add S.next ⟨b, o, 0, 0, 1⟩) S.next 0 0 c c _ (Ren.add_same _ _ _) (.inl rfl)
        simpa using this
    | some sz n cs b o c C e F hcap hp hlen hw hc =>
      obtain ⟨e1, he1⟩ := he sz (List.mem_cons_self ..)
      obtain ⟨hR2, hS2⟩ := push_ro (e := e1) (sz := sz) hR hS (by omega) hw hp hc he1
      refine ⟨S.push (.ro cs e1), _, .slice (some ⟨S.next, 0, none⟩) n c :: xs, hR2, hS2, by simp; omega, .cons (.some sz n cs S.next c e1 hcap hp hlen ?_) (hH.push hR.fresh (by omega) _), .cons ?_ (hL.mono (Ren.le_add _ hR.none_next))⟩
      · rw [St.get_push _ (by omega), if_pos rfl]
      · have := VRel.slice (ρ := ρ.add S.next ⟨b, o, cs.length, 0, sz⟩) S.next 0 n c c _ (Ren.add_same _ _ _) (.inl rfl)
        simpa using this

/-- A function's contract from its runs: at every state that holds the arguments, and has room. -/
theorem pureDec_of (R : Ready P) (hH : HookOk P W0 H) (hHk : HookKept H) (hg : P.globals.size + 8 ≤ 1073741000) {f : FuncId} {fn : Func} (hf : P.funcs[f]? = some fn) (hb : fn.body.isSome = true) {sig : List (Option Nat)} (hsig : sig.length ≤ 100)
    (he : ∀ sz, some sz ∈ sig → ∃ e, (P.info? e).map (·.size) = some sz) {g : List Arg → Option Value} (hv : ∀ ds v, g ds = some v → plainR v = true)
    (h : ∀ ds v, g ds = some v → ∀ S xs, HoldsAll P S sig ds xs → (∀ b, S.next ≤ b → S.get b = none) → S.next ≤ P.globals.size + 108 → ∃ S', EvFn P H f xs S v S') : PureDec P W0 f sig g := by
  intro ds v hgv
  refine ⟨hv ds v hgv, fun w args' hold hsz hd => ?_⟩
  obtain ⟨S, ρ, xs, hR, hS, hn, hHo, hL⟩ := holds_of hg w sig ds args' hd hsig he
  obtain ⟨S', hev⟩ := h ds v hgv S xs hHo hR.fresh (by omega)
  have hO : Old W0 ρ S w := fun k hk => ⟨⟨by omega, fun b p x hb hx hr => by rw [hS b x hx] at hr; cases hr⟩, hold k hk⟩
  refine Calls.mono (CallOk.calls R hf hb (hev.ok R hH hHk hR hO hL)) ?_
  rintro e w' ⟨v', rfl, ρ', hr, _, hs⟩
  refine ⟨by rw [VRel.of_plainR (hv ds v hgv) hr], ⟨hs.os, hs.tape, hs.output, hs.size, fun k hk => hs.frame k hk fun b p x hb hx hr => by rw [hS b x hx] at hr; cases hr⟩⟩
end
end
end Go.Mig

namespace Go.Mig
open Go Go.Mir Go.Mif Go.RowKit
noncomputable section

/-! ### Bytes -/
/-- A byte of a list, as a number. -/
def nb (l : List UInt8) (i : Nat) : Nat := (l.getD i 0).toNat
theorem nb_lt (l : List UInt8) (i : Nat) : nb l i < 256 := (l.getD i 0).toNat_lt
theorem bytes_at (l : List UInt8) (i : Nat) (h : i < l.length) : (cellsOfBytes l)[i]? = some (.int .u8 (nb l i : Int)) := by
  unfold cellsOfBytes nb
  rw [List.getElem?_map, List.getElem?_eq_getElem h, List.getD_eq_getElem?_getD, List.getElem?_eq_getElem h]; rfl
theorem cell_ro {S : St} {b : Nat} {cs : List Value} {e : TypeId} (hg : S.get b = some (.ro cs e)) (o : Nat) : cellAt S ⟨b, o, none⟩ = cs[o]? := by
  unfold cellAt
  simp only [St.row, hg]
theorem byte_ro {S : St} {b : Nat} {l : List UInt8} {e : TypeId} (hg : S.get b = some (.ro (cellsOfBytes l) e)) {i : Nat} (h : i < l.length) : cellAt S ⟨b, i, none⟩ = some (.int .u8 (nb l i : Int)) := (cell_ro hg i).trans (bytes_at l i h)

/-! ### Regions, with the places of their operations' temporaries alone -/
def guardD (D : List (Option Tmp)) (E : Env) (j : Nat) : Value :=
  match D[j]? with
  | some (some d) => E.get d
  | _ => undef
def wantedD (D : List (Option Tmp)) (E : Env) : Option (Nat × Bool) → Option Bool
  | none => some true
  | some (j, want) => match guardD D E j with
    | .bool b => some (match b, want with | true, true => true | false, false => true | _, _ => false)
    | .chan none => some false
    | _ => none
def runOpsD (P : Program) (H : Hooks) (rc : CodeFG) (D : List (Option Tmp)) : List Oper → Env → St → Option (Env × St)
  | [], E, s => some (E, s)
  | o :: rest, E, s =>
    match wantedD D E o.guard with
    | some true => thenG o.dst E (runOpsD P H rc D rest) (execG P H rc (Mif.aop (FP.of P) s (evG E) o))
    | some false => runOpsD P H rc D rest (putG E o.dst skipV) s
    | none => none

theorem wantedD_eq {ops : Array Oper} {E : Env} {o : Oper} {b : Bool} (h : wantedD (ops.toList.map (·.dst)) E o.guard = some b) : wantedG ops E o = some b := by
  unfold wantedG
  cases hg : o.guard with
  | none => rw [hg] at h; exact h
  | some g =>
    obtain ⟨j, want⟩ := g
    rw [hg] at h
    unfold wantedD guardD at h
    simp only at h ⊢
    rw [List.getElem?_map, Array.getElem?_toList] at h
    cases hj : ops[j]? with
    | none => rw [hj] at h; cases h
    | some oj =>
      rw [hj] at h
      simp only [Option.map_some] at h ⊢
      cases hd : oj.dst with
      | none => rw [hd] at h; cases h
      | some d => rw [hd] at h; exact h

theorem opsD_eq {P : Program} {H : Hooks} {rc : CodeFG} {ops : Array Oper} : ∀ (l : List Oper) (E : Env) (S : St) (q : Env × St), runOpsD P H rc (ops.toList.map (·.dst)) l E S = some q → runOpsG P H rc ops l E S = some q
  | [], E, S, q, h => h
  | o :: rest, E, S, q, h => by
    unfold runOpsD at h
    unfold runOpsG
    cases hw : wantedD (ops.toList.map (·.dst)) E o.guard with
    | none => rw [hw] at h; cases h
    | some b =>
      rw [hw] at h
      rw [wantedD_eq hw]
      cases b with
      | false => exact opsD_eq rest _ _ q h
      | true =>
        simp only at h ⊢
        cases hx : execG P H rc (Mif.aop (FP.of P) S (evG E) o) with
        | none => rw [hx] at h; cases h
        | some v =>
          rw [hx] at h
          exact opsD_eq rest _ _ q h

section
variable (P : Program) (H : Hooks) (rc : CodeFG) (D : List (Option Tmp)) (S : St) (d : Option Tmp) (t : TypeId) (p : String) (a : Array Edge)
@[simp] theorem opsD_nil (E : Env) : runOpsD P H rc D [] E S = some (E, S) := id rfl
@[simp] theorem opsD_cons (op : Op) (l : List Oper) (E : Env) : runOpsD P H rc D (⟨d, op, t, p, a, none⟩ :: l) E S = thenG d E (runOpsD P H rc D l) (execG P H rc (Mif.aop (FP.of P) S (evG E) ⟨d, op, t, p, a, none⟩)) := id rfl
@[simp] theorem opsD_yes (op : Op) (l : List Oper) (E : Env) (j : Nat) (want : Bool) (h : guardD D E j = .bool want) : runOpsD P H rc D (⟨d, op, t, p, a, some (j, want)⟩ :: l) E S = thenG d E (runOpsD P H rc D l) (execG P H rc (Mif.aop (FP.of P) S (evG E) ⟨d, op, t, p, a, some (j, want)⟩)) := by
  show (match wantedD D E (some (j, want)) with | some true => _ | some false => _ | none => _) = _
  simp only [wantedD]
  rw [h]
  cases want <;> rfl
@[simp] theorem opsD_no (op : Op) (l : List Oper) (E : Env) (j : Nat) (want : Bool) (h : guardD D E j = .bool !want) : runOpsD P H rc D (⟨d, op, t, p, a, some (j, want)⟩ :: l) E S = runOpsD P H rc D l (putG E d skipV) S := by
  show (match wantedD D E (some (j, want)) with | some true => _ | some false => _ | none => _) = _
  simp only [wantedD]
  rw [h]
  cases want <;> rfl
@[simp] theorem opsD_skip (op : Op) (l : List Oper) (E : Env) (j : Nat) (want : Bool) (h : guardD D E j = skipV) : runOpsD P H rc D (⟨d, op, t, p, a, some (j, want)⟩ :: l) E S = runOpsD P H rc D l (putG E d skipV) S := by
  show (match wantedD D E (some (j, want)) with | some true => _ | some false => _ | none => _) = _
  simp only [wantedD]
  rw [h]
  rfl
end
@[simp] theorem guardD_eq (D : List (Option Tmp)) (E : Env) (j : Nat) : guardD D E j = match D[j]? with | some (some d) => E.get d | _ => undef := id rfl
theorem guardD_at (D : List (Option Tmp)) (n : Nat) (f : Nat → Value) (j d : Nat) (h : D[j]? = some (some d)) (hd : d < n) : guardD D ⟨n, f⟩ j = f d := by
  unfold guardD
  rw [h]
  exact get_env n f d hd

section
variable (P : Program) (H : Hooks)
/-- The code runs through, and what is asked holds behind it. -/
def W (c : Code) (E : Env) (S : St) (Q : Ex → Env → St → Prop) : Prop := ∃ x E' S', Ev P H c E S x E' S' ∧ Q x E' S'
variable {P H}
variable {E E' : Env} {S S' : St} {Q Q' : Ex → Env → St → Prop} {a b c : Code} {id : Nat} {ops : Array Oper}

theorem W.mono (h : W P H c E S Q) (k : ∀ x E S, Q x E S → Q' x E S) : W P H c E S Q' := by
  obtain ⟨x, E', S', h1, h2⟩ := h
  exact ⟨x, E', S', h1, k _ _ _ h2⟩
theorem W.skip (h : Q .normal E S) : W P H .skip E S Q := ⟨_, _, _, .skip, h⟩
theorem W.ret (h : Q .ret E S) : W P H .ret E S Q := ⟨_, _, _, .ret, h⟩
theorem W.exit (h : Q (.exit id) E S) : W P H (.exit id) E S Q := ⟨_, _, _, .exit, h⟩
theorem W.reg {n : Nat} {D : List (Option Tmp)} (hD : ops.toList.map (·.dst) = D) (h : runOpsD P H (runCodeG P H n) D ops.toList E S = some (E', S')) (k : Q .normal E' S') : W P H (.region id ops false) E S Q := ⟨_, _, _, .region ⟨n, opsD_eq _ _ _ _ (hD ▸ h)⟩, k⟩
/-- A sequence: the first; then the second, unless the first has left. -/
theorem W.seq (h : W P H a E S fun x E' S' => (x = .normal ∧ W P H b E' S' Q) ∨ (x ≠ .normal ∧ Q x E' S')) : W P H (.seq a b) E S Q := by
  obtain ⟨x, E1, S1, h1, h2⟩ := h
  rcases h2 with ⟨rfl, y, E2, S2, h3, h4⟩ | ⟨hx, h4⟩
  · exact ⟨y, E2, S2, .seq h1 h3, h4⟩
  · exact ⟨x, E1, S1, .seq_out h1 hx, h4⟩
theorem W.region {n : Nat} {D : List (Option Tmp)} (hD : ops.toList.map (·.dst) = D) (h : runOpsD P H (runCodeG P H n) D ops.toList E S = some (E', S')) (k : W P H b E' S' Q) : W P H (.seq (.region id ops false) b) E S Q :=
  .seq (.reg hD h (.inl ⟨rfl, k⟩))
theorem W.assoc (h : W P H (.seq a (.seq b c)) E S Q) : W P H (.seq (.seq a b) c) E S Q := by
  obtain ⟨x, E', S', ⟨n, h⟩, k⟩ := h
  refine .seq (.seq ?_)
  obtain ⟨m, rfl⟩ : ∃ m, n = m + 1 := ⟨n - 1, by
    cases n with
    | zero => cases h
    | succ n => omega⟩
  have h1 : seqG (runCodeG P H m) (.seq b c) (runCodeG P H m a E S) = some ⟨x, E', S'⟩ := h
  cases ha : runCodeG P H m a E S with
  | none => rw [ha] at h1; cases h1
  | some o =>
    obtain ⟨y, E1, S1⟩ := o
    rw [ha] at h1
    refine ⟨y, E1, S1, ⟨m, ha⟩, ?_⟩
    cases y with
    | normal =>
      refine .inl ⟨rfl, ?_⟩
      have h2 : runCodeG P H m (.seq b c) E1 S1 = some ⟨x, E', S'⟩ := h1
      obtain ⟨m, rfl⟩ : ∃ k, m = k + 1 := ⟨m - 1, by
        cases m with
        | zero => cases h2
        | succ n => omega⟩
      have h3 : seqG (runCodeG P H m) c (runCodeG P H m b E1 S1) = some ⟨x, E', S'⟩ := h2
      cases hb : runCodeG P H m b E1 S1 with
      | none => rw [hb] at h3; cases h3
      | some o =>
        obtain ⟨z, E2, S2⟩ := o
        rw [hb] at h3
        refine ⟨z, E2, S2, ⟨m, hb⟩, ?_⟩
        cases z with
        | normal => exact .inl ⟨rfl, x, E', S', ⟨m, h3⟩, k⟩
        | _ => cases h3; exact .inr ⟨by simp, k⟩
    | _ => cases h1; exact .inr ⟨by simp, .inr ⟨by simp, k⟩⟩
theorem W.cond {o : Operand} (d : Bool) (hc : evG E o = .bool d) (h : W P H (bif d then a else b) E S Q) : W P H (.cond o a b) E S Q := by
  obtain ⟨x, E', S', h, k⟩ := h
  exact ⟨x, E', S', .cond d hc h, k⟩
theorem W.cond_true {o : Operand} (hc : evG E o = .bool true) (h : W P H a E S Q) : W P H (.cond o a b) E S Q := .cond true hc h
theorem W.cond_false {o : Operand} (hc : evG E o = .bool false) (h : W P H b E S Q) : W P H (.cond o a b) E S Q := .cond false hc h
theorem W.seq_true {o : Operand} (hc : evG E o = .bool true) (h : W P H (.seq a c) E S Q) : W P H (.seq (.cond o a b) c) E S Q := by
  obtain ⟨x, E', S', ⟨n, h⟩, k⟩ := h
  cases n with
  | zero => cases h
  | succ n =>
    refine ⟨x, E', S', ⟨n + 2, ?_⟩, k⟩
    show seqG (runCodeG P H (n + 1)) c (condG (runCodeG P H n) a b E S (evG E o)) = _
    rw [hc]
    show seqG (runCodeG P H (n + 1)) c (runCodeG P H n a E S) = _
    exact seq_le (run_succ n) (Le.refl _) c _ h
theorem W.seq_false {o : Operand} (hc : evG E o = .bool false) (h : W P H (.seq b c) E S Q) : W P H (.seq (.cond o a b) c) E S Q := by
  obtain ⟨x, E', S', ⟨n, h⟩, k⟩ := h
  cases n with
  | zero => cases h
  | succ n =>
    refine ⟨x, E', S', ⟨n + 2, ?_⟩, k⟩
    show seqG (runCodeG P H (n + 1)) c (condG (runCodeG P H n) a b E S (evG E o)) = _
    rw [hc]
    show seqG (runCodeG P H (n + 1)) c (runCodeG P H n b E S) = _
    exact seq_le (run_succ n) (Le.refl _) c _ h
theorem W.seq_skip (h : W P H c E S Q) : W P H (.seq .skip c) E S Q := .seq (.skip (.inl ⟨rfl, h⟩))
theorem W.seq_ret (h : Q .ret E S) : W P H (.seq .ret c) E S Q := .seq (.ret (.inr ⟨by simp, h⟩))
theorem W.seq_exit (h : Q (.exit id) E S) : W P H (.seq (.exit id) c) E S Q := .seq (.exit (.inr ⟨by simp, h⟩))
/-- A block: its own exit ends it. -/
theorem W.block (h : W P H b E S fun x E' S' => match x with | .exit i => bif Nat.beq i id then Q .normal E' S' else Q (.exit i) E' S' | x => Q x E' S') : W P H (.block id b) E S Q := by
  obtain ⟨x, E', S', h, k⟩ := h
  cases x with
  | exit i =>
    simp only at k
    cases hb : Nat.beq i id with
    | true =>
      rw [hb] at k
      obtain rfl := Nat.eq_of_beq_eq_true hb
      exact ⟨_, _, _, .block_exit h, k⟩
    | false => rw [hb] at k; exact ⟨_, _, _, .block_other h hb, k⟩
  | _ => exact ⟨_, _, _, .block h (by simp), k⟩
/-- A loop: by what holds ahead of each round, and a measure that falls. -/
theorem W.loop {b : Code} (I : Nat → Env → St → Prop) (h : ∀ n E S, I n E S → W P H b E S fun x E' S' => (x = .normal ∧ ∃ m, m < n ∧ I m E' S') ∨ (x ≠ .normal ∧ Q x E' S')) : ∀ n E S, I n E S → W P H (.loop b) E S Q := by
  intro n
  induction n using Nat.strongRecOn with
  | _ n ih =>
    intro E S hI
    obtain ⟨x, E', S', h1, h2⟩ := h n E S hI
    rcases h2 with ⟨rfl, m, hm, hI'⟩ | ⟨hx, hq⟩
    · obtain ⟨y, E2, S2, h3, h4⟩ := ih m hm E' S' hI'
      exact ⟨y, E2, S2, .loop h1 h3, h4⟩
    · exact ⟨x, E', S', .loop_out h1 hx, hq⟩

/-- A function, by its body. -/
theorem EvFn.of {f : FuncId} {fn : Func} {args : List Value} {v : Value} (hf : P.funcs[f]? = some fn) (hh : H f = none) (hb : fn.body = some c) (hn : Nat.ble fn.ntmps 1000000 = true) (hl : Nat.ble args.length fn.ntmps = true)
    (h : W P H c (Env.ofArgs args fn.ntmps) S fun x E' S' => (x = .normal ∨ x = .ret) ∧ resultsG P S' fn E' = some (v, S')) : ∃ S', EvFn P H f args S v S' := by
  obtain ⟨x, E', S', h1, h2, h3⟩ := h
  exact ⟨S', .body hf hh hb hn hl h1 h2 h3⟩
theorem EvFn.of_at {f : FuncId} {fn : Func} {args : List Value} {v : Value} (hf : P.funcs[f]? = some fn) (hh : H f = none) (hb : fn.body = some c) (hn : Nat.ble fn.ntmps 1000000 = true) (hl : Nat.ble args.length fn.ntmps = true)
    (h : W P H c (Env.ofArgs args fn.ntmps) S fun x E' S2 => S2 = S' ∧ (x = .normal ∨ x = .ret) ∧ resultsG P S2 fn E' = some (v, S2)) : EvFn P H f args S v S' := by
  obtain ⟨x, E', S2, h1, rfl, h2, h3⟩ := h
  exact .body hf hh hb hn hl h1 h2 h3
end
end
end Go.Mig

namespace Go.Mig
open Go Go.Mir Go.Mif Go.RowKit
noncomputable section

/-- Nothing that was there has turned; there is more. -/
structure Ext (S S' : St) : Prop where
  next : S.next ≤ S'.next
  same : ∀ b, b < S.next → S'.get b = S.get b
/-- A state as it should be: nothing beyond the next number; room. -/
structure Good (S : St) (k : Nat) : Prop where
  fresh : ∀ b, S.next ≤ b → S.get b = none
  room : S.next ≤ k

theorem Ext.refl (S : St) : Ext S S := ⟨Nat.le_refl _, fun _ _ => rfl⟩
theorem Ext.trans {A B C : St} (h : Ext A B) (k : Ext B C) : Ext A C := ⟨Nat.le_trans h.next k.next, fun b hb => (k.same b (Nat.lt_of_lt_of_le hb h.next)).trans (h.same b hb)⟩
theorem Good.mono {S : St} {k m : Nat} (h : Good S k) (hm : k ≤ m) : Good S m := ⟨h.fresh, Nat.le_trans h.room hm⟩
theorem Good.lt {S : St} {k : Nat} (h : Good S k) {b : Nat} {x : ABlk} (hb : S.get b = some x) : b < S.next := by
  by_cases hl : b < S.next
  · exact hl
  · rw [h.fresh b (by omega)] at hb; cases hb
theorem get_push_same {S : St} (x : ABlk) (h : S.next < 1073741824) : (S.push x).get S.next = some x := by rw [St.get_push x h, if_pos rfl]
theorem get_push_other {S : St} (x : ABlk) (h : S.next < 1073741824) {b : Nat} (hb : b < S.next) : (S.push x).get b = S.get b := by rw [St.get_push x h, if_neg (by omega)]
theorem Ext.push {S : St} (x : ABlk) (h : S.next < 1073741824) : Ext S (S.push x) := ⟨by simp, fun b hb => get_push_other x h hb⟩
theorem Good.push {S : St} {k : Nat} (g : Good S k) (x : ABlk) (h : k < 1073741824) : Good (S.push x) (k + 1) := by
  refine ⟨fun b hb => ?_, by have := g.room; simp; omega⟩
  have hr := g.room
  simp at hb
  rw [St.get_push x (by omega), if_neg (by omega)]
  exact g.fresh b (by omega)
theorem get_put_same {S : St} {b : Nat} (x : ABlk) (h : b < 1073741824) : (S.put b x).get b = some x := by rw [St.get_put x h, if_pos rfl]
theorem get_put_other {S : St} {b c : Nat} (x : ABlk) (h : b < 1073741824) (hc : c ≠ b) : (S.put b x).get c = S.get c := by rw [St.get_put x h, if_neg hc]
theorem Good.put {S : St} {k : Nat} (g : Good S k) {b : Nat} (x : ABlk) (h : b < S.next) (hk : k < 1073741824) : Good (S.put b x) k := by
  have hr := g.room
  refine ⟨fun c hc => ?_, g.room⟩
  simp at hc
  rw [get_put_other x (by omega) (by omega)]
  exact g.fresh c hc

theorem newSlice_eq {S : St} (e : TypeId) (cs : List Value) (g : Bool) (l c : Nat) (h : S.next ≤ 1073741823) : newSlice S e cs g l c = some (.slice (some ⟨S.next, 0, none⟩) l c, S.push (.cells cs e g)) := by
  unfold newSlice; rw [Nat.ble_eq_true_of_le h]; rfl
theorem newObj_eq {S : St} (o : Obj) (h : S.next ≤ 1073741823) : newObjA S o = some (S.next, S.push (.obj o)) := by
  unfold newObjA; rw [Nat.ble_eq_true_of_le h]; rfl
theorem newVar_eq {P : Program} {S : St} {t sz : Nat} {cs : List Value} (hs : Mir.sizeT P t = some sz) (hc : cs.all oneCell = true) (h : S.next ≤ 1073741823) : Mir.newVar P S t cs = some (.val (.pointer (some ⟨S.next, 0, none⟩)) (S.push (.cells cs t false))) := by
  unfold Mir.newVar; rw [hs]; simp only; rw [Nat.ble_eq_true_of_le h, hc]; rfl

/-! ### Slices of bytes -/
/-- A value that is a slice of these bytes. -/
def IsB (S : St) (v : Value) (l : List UInt8) : Prop :=
  ∃ a c, v = .slice a l.length c ∧ l.length ≤ c ∧ (a = none → c = 0) ∧ (l = [] ∨ ∃ b o, a = some ⟨b, o, none⟩ ∧ cellsAt S ⟨b, o, none⟩ l.length = some (cellsOfBytes l))

theorem cellsAt_ext {S S' : St} {a : Addr} {n : Nat} {cs : List Value} {k : Nat} (hg : Good S k) (h : Ext S S') (hc : cellsAt S a n = some cs) : cellsAt S' a n = some cs := by
  have hb : a.block < S.next := by
    by_cases hl : a.block < S.next
    · exact hl
    · unfold cellsAt St.row at hc
      rw [hg.fresh _ (by omega)] at hc
      split at hc
      · rename_i h1 h2; cases h2
      · cases hc
  unfold cellsAt St.row at hc ⊢
  rw [h.same _ hb]; exact hc
theorem IsB.ext {S S' : St} {v : Value} {l : List UInt8} {k : Nat} (hi : IsB S v l) (hg : Good S k) (h : Ext S S') : IsB S' v l := by
  obtain ⟨a, c, h1, h2, h3, h4⟩ := hi
  refine ⟨a, c, h1, h2, h3, ?_⟩
  rcases h4 with h4 | ⟨b, o, h5, h6⟩
  · exact .inl h4
  · exact .inr ⟨b, o, h5, cellsAt_ext hg h h6⟩
theorem len_isB {P : Program} {t e : Nat} (h1 : P.underlying t = some (.slice e)) {S : St} {v : Value} {l : List UInt8} (hi : IsB S v l) (S' : St) : Mir.abuiltin P S' .len #[t] [v] = some (.int .i64 (l.length : Int), S') := by
  obtain ⟨a, c, rfl, _⟩ := hi
  exact len_slice h1 S' a _ c
theorem plain_bytes (l : List UInt8) : (cellsOfBytes l).all plain1 = true := by
  unfold cellsOfBytes
  rw [List.all_eq_true]
  intro x hx
  obtain ⟨c, _, rfl⟩ := List.mem_map.1 hx
  rfl
theorem dec_isB {S : St} {v : Value} {l : List UInt8} (hi : IsB S v l) : decA S (some 1) v = some (.s l.length (cellsOfBytes l)) := by
  obtain ⟨a, c, rfl, h2, h3, h4⟩ := hi
  cases a with
  | none =>
    obtain rfl := h3 rfl
    rcases h4 with rfl | ⟨b, o, h5, _⟩
    · rfl
    · cases h5
  | some a =>
    rcases h4 with rfl | ⟨b, o, h5, h6⟩
    · rfl
    · cases h5
      unfold decA
      cases hz : Nat.beq l.length 0 with
      | true =>
        have := Nat.eq_of_beq_eq_true hz
        obtain rfl := List.eq_nil_of_length_eq_zero this
        rfl
      | false => simp only [Nat.mul_one, h6, plain_bytes, cond_true, cond_false, hz, Nat.ble_eq_true_of_le h2, Bool.and_self]
/-- A byte of a slice. -/
theorem IsB.at {S : St} {v : Value} {l : List UInt8} (hi : IsB S v l) {i : Nat} (h : i < l.length) : ∃ b o c, v = .slice (some ⟨b, o, none⟩) l.length c ∧ cellAt S ⟨b, o + i, none⟩ = some (.int .u8 (nb l i : Int)) := by
  obtain ⟨a, c, rfl, h2, h3, h4⟩ := hi
  rcases h4 with rfl | ⟨b, o, rfl, h1⟩
  · simp at h
  · refine ⟨b, o, c, rfl, ?_⟩
    unfold cellsAt at h1
    unfold cellAt
    simp only at h1 ⊢
    cases hr : S.row b with
    | none => rw [hr] at h1; cases h1
    | some row =>
      rw [hr] at h1
      obtain ⟨_, h1⟩ := cond_some' h1
      have h2 := bytes_at l i h
      rw [← Option.some.inj h1, List.getElem?_take, if_pos h, List.getElem?_drop] at h2
      exact h2
theorem bytesOf_cells : ∀ l : List UInt8, Mir.bytesOfCells (cellsOfBytes l) = some l
  | [] => rfl
  | c :: l => by
    show (Mir.bytesOfCells (cellsOfBytes l)).map (UInt8.ofNat (Int.toNat (c.toNat : Int)) :: ·) = _
    rw [bytesOf_cells l]
    simp
/-- The bytes of a slice, as a text. -/
theorem str_isB {P : Program} {t ts e : Nat} (h1 : P.underlying t = some (.slice e)) (h2 : P.underlying ts = some .string) (h3 : P.underlying e = some (.int .u8)) {S : St} {v : Value} {l : List UInt8} (hi : IsB S v l) (hl : l ≠ []) : Mir.aconvert P S t ts v = some (.string ⟨⟨l⟩⟩, S) := by
  obtain ⟨a, c, rfl, h5, h6, h4⟩ := hi
  have e0 : Mir.aconvert P S t ts (.slice a l.length c) = Mir.toStringA P S e a l.length := by
    unfold Mir.aconvert
    simp only [h1, h2]
  rw [e0]
  rcases h4 with rfl | ⟨b, o, rfl, h7⟩
  · exact absurd rfl hl
  · unfold Mir.toStringA
    rw [h3]
    simp only [h7, bytesOf_cells]
/-- A slice's begin. -/
theorem take_isB {P : Program} {t e : Nat} (h1 : P.underlying t = some (.slice e)) (hs : Mir.sizeT P e = some 1) {S : St} {v : Value} {l : List UInt8} (hi : IsB S v l) {k : Nat} (hk : k ≤ l.length) : ∃ v', Mir.aslice P S t v none (some (.int .i64 (k : Int))) none = some v' ∧ IsB S v' (l.take k) := by
  obtain ⟨a, c, rfl, hc, h3, h4⟩ := hi
  have hb : Mir.abounds l.length c none (some (.int .i64 (k : Int))) none = some (0, k, c) := by
    unfold Mir.abounds
    have e1 : Mir.abnd (some (.int .i64 (k : Int))) (hiD none l.length) c = some k := by
      show (bif Nat.ble k c then some k else none) = _
      rw [Nat.ble_eq_true_of_le (by omega)]; rfl
    show (match Mir.abnd (some (.int .i64 (k : Int))) (hiD none l.length) c, (none : Option Value), (some (.int .i64 (k : Int)) : Option Value) with | some _, some _, none => none | some h, _, _ => (match Mir.abnd none 0 h with | some l => some (l, h, c) | none => none) | none, _, _ => none) = _
    rw [e1]; rfl
  have e0 : Mir.aslice P S t (.slice a l.length c) none (some (.int .i64 (k : Int))) none = Mir.asliceSlice P S e a l.length c none (some (.int .i64 (k : Int))) none := by
    unfold Mir.aslice
    rw [h1]
  rw [e0]
  unfold Mir.asliceSlice
  rw [hb, hs]
  simp only
  have hlen : (l.take k).length = k := by rw [List.length_take]; omega
  cases a with
  | none =>
    obtain rfl := h3 rfl
    have : l = [] := List.eq_nil_of_length_eq_zero (by omega)
    subst this
    simp at hk
    subst hk
    exact ⟨_, rfl, none, 0, rfl, Nat.le_refl _, fun _ => rfl, .inl rfl⟩
  | some a =>
    have ea : a.add (0 * 1) = a := by unfold Addr.add; rw [if_pos (by omega)]
    refine ⟨.slice (some a) k c, ?_, some a, c, by rw [hlen], by omega, fun h => (by cases h), ?_⟩
    · simp only [show Nat.beq 0 0 = true from rfl, Bool.true_or, Nat.ble_eq_true_of_le hc, Bool.and_self, cond_true, ea, Nat.sub_zero]
    · rcases h4 with rfl | ⟨b, o, h5, h2⟩
      · exact .inl (by simp)
      · refine .inr ⟨b, o, h5, ?_⟩
        rw [hlen]
        unfold cellsAt at h2 ⊢
        simp only at h2 ⊢
        cases hr : S.row b with
        | none => rw [hr] at h2; cases h2
        | some row =>
          rw [hr] at h2
          obtain ⟨hle, h2⟩ := cond_some' h2
          have hle := Nat.le_of_ble_eq_true hle
          simp only
          rw [Nat.ble_eq_true_of_le (by omega)]
          simp only [cond_true]
          have h2 := Option.some.inj h2
          have : (cellsOfBytes l).take k = cellsOfBytes (l.take k) := by unfold cellsOfBytes; rw [List.map_take]
          rw [← this, ← h2, List.take_take, show min k l.length = k by omega]

/-- What holds the arguments, as a slice of bytes. -/
theorem isB_of {P : Program} {S : St} {n : Nat} {l : List UInt8} {x : Value} (h : Holds P S (some 1) (.s n (cellsOfBytes l)) x) : IsB S x l := by
  generalize hcs : cellsOfBytes l = cs at h
  cases h with
  | nil sz =>
    have : l = [] := by cases l with | nil => rfl | cons a b => simp [cellsOfBytes] at hcs
    subst this
    exact ⟨none, 0, rfl, Nat.le_refl _, fun _ => rfl, .inl rfl⟩
  | zero sz a c =>
    have : l = [] := by cases l with | nil => rfl | cons a b => simp [cellsOfBytes] at hcs
    subst this
    exact ⟨some a, c, rfl, Nat.zero_le _, fun h => (by cases h), .inl rfl⟩
  | some sz n cs b c e hcap hp hl hg =>
    have hn : l.length = n := by rw [← hcs] at hl; simpa [cellsOfBytes] using hl
    subst hn
    refine ⟨some ⟨b, 0, none⟩, c, rfl, hcap, fun h => (by cases h), .inr ⟨b, 0, rfl, ?_⟩⟩
    unfold cellsAt St.row
    rw [hg]
    simp only
    subst hcs
    rw [Nat.ble_eq_true_of_le (by simp [cellsOfBytes])]
    simp only [cond_true, List.drop_zero]
    rw [List.take_of_length_le (by simp [cellsOfBytes])]
end
end Go.Mig

namespace Go.Mig
open Go Go.Mir Go.Mif Go.RowKit
noncomputable section

section
variable {P : Program} {H : Hooks} {S S' S3 : St}

@[simp] theorem astr_eql (a b : List UInt8) : Mir.astr .eql a b = some (.bool (a == b)) := by show some (Value.bool (bytesEq a b)) = _; rw [bytesEq_eq]
@[simp] theorem astr_neq (a b : List UInt8) : Mir.astr .neq a b = some (.bool (!(a == b))) := by show some (Value.bool (!(bytesEq a b))) = _; rw [bytesEq_eq]
theorem astr_add (a b : List UInt8) (h : a.length + b.length ≤ 1099511627776) : Mir.astr .add a b = some (.string ⟨⟨a ++ b⟩⟩) := by show (bif Nat.ble (a.length + b.length) 1099511627776 then some (Value.string ⟨⟨a ++ b⟩⟩) else none) = _; rw [Nat.ble_eq_true_of_le h]; rfl

theorem cell_var {b : Nat} {v : Value} {cs : List Value} {e : TypeId} {g : Bool} (h : S.get b = some (.cells (v :: cs) e g)) : cellAt S ⟨b, 0, none⟩ = some v := by
  unfold cellAt St.row
  rw [h]; rfl
theorem store_var {t : Nat} {b : Nat} {v o : Value} {e : TypeId} {g : Bool} (hs : Mir.sizeT P t = some 1) (h : S.get b = some (.cells [o] e g)) (hv : v.cells.toList = [v]) (ho : oneCell v = true) :
    Mir.opStore P S t v (.pointer (some ⟨b, 0, none⟩)) = some (.val undef (S.put b (.cells [v] e g))) := by
  show ru (Mir.storeT P S t ⟨b, 0, none⟩ v) = _
  unfold Mir.storeT
  rw [hs]
  simp only
  have hz : v.cells.size = 1 := by rw [← Array.length_toList, hv]; rfl
  rw [hz, hv]
  simp only [List.all_cons, ho, List.all_nil, Bool.and_self, beq_self_eq_true, cond_true]
  unfold storeCellsA
  simp only [h]
  rfl

/-- A round that ends as it should. -/
theorem round_normal {l : Nat} {r : Loop} {args : List Value} {E1 E3 : Env} (hS : S.get l = some (.obj (.loop r))) (hst : r.state = .ready) (hpe : r.pending = none) (hl : Nat.beq args.length r.params.toList.length = true) (hn1 : noRange r.assign = true) (hn2 : noRange r.body = true) (hn : r.tmps.toList.length ≤ 1000000)
    (ha : Ev P H r.assign (Env.ofArgs (roundTmps (r.params.toList.zip args) r.tmps.toList) r.tmps.toList.length) S .normal E1 S) (hb : Ev P H r.body E1 (S.put l (.obj (.loop { r with state := .busy }))) .normal E3 S3)
    (h3 : S3.get l = some (.obj (.loop { r with state := .busy }))) : ∃ n, roundG (runCodeG P H n) l args S = some (.bool true, S3.put l (.obj (.loop r))) := by
  obtain ⟨n, ha⟩ := ha
  obtain ⟨m, hb⟩ := hb
  refine ⟨n + m, ?_⟩
  unfold roundG
  rw [hS]
  simp only [hl, hn1, hn2, Bool.and_self, Nat.ble_eq_true_of_le hn, cond_true]
  rw [run_le (show n ≤ n + m by omega) _ _ _ _ ha]
  unfold bodyG
  simp only [hS, hst]
  rw [run_le (show m ≤ n + m by omega) _ _ _ _ hb]
  unfold endRoundG
  simp only [h3, Ex.jump, Option.isNone_none, if_true]
  rw [show ({ r with state := .ready, pending := none } : Loop) = r by cases r; simp only at hst hpe; subst hst; subst hpe; rfl]

/-! ### Slices of texts that grow -/
/-- A value that is a slice of these texts, in a block of its own from G on. -/
def LinesAt (S : St) (G : Nat) (sl : Value) (ls : List ByteArray) : Prop :=
  (ls = [] ∧ sl = .slice none 0 0) ∨ (ls ≠ [] ∧ ∃ g, sl = .slice (some ⟨g, 0, none⟩) ls.length ls.length ∧ G ≤ g ∧ g < S.next ∧ S.get g = some (.cells (ls.map .string) 9 true))

theorem one_strings (ls : List ByteArray) : (ls.map Value.string).all oneCell = true := by
  rw [List.all_eq_true]
  intro x hx
  obtain ⟨s, _, rfl⟩ := List.mem_map.1 hx
  rfl

/-- What append needs to know of the texts' slices' type. -/
structure TextSlice (P : Program) (t : TypeId) : Prop where
  und : P.underlying t = some (.slice 9)
  info : ∃ i, P.info? 9 = some i ∧ i.size = 1 ∧ i.bytes = 16
  zero : Mir.zeroT P 9 = some (.string ⟨#[]⟩)

theorem append_lines {t : TypeId} (T : TextSlice P t) {G : Nat} {sl : Value} {ls : List ByteArray} (hL : LinesAt S G sl ls) (x : ByteArray) {nb : Nat} (hnb : S.get nb = some (.cells [.string x] 9 false)) (hG : G ≤ S.next) (hn : S.next ≤ 1073741823) (hlen : ls.length ≤ 1000000) :
    ∃ sl' S', Mir.abuiltin P S .append #[t, t] [sl, .slice (some ⟨nb, 0, none⟩) 1 1] = some (sl', S') ∧ LinesAt S' G sl' (ls ++ [x]) ∧ S'.next = S.next + 1 ∧ (∀ b, b < G → S'.get b = S.get b) ∧ (∀ b, S'.next ≤ b → S.get b = none → S'.get b = none) := by
  obtain ⟨hu, ⟨i, hi, hi1, hi2⟩, hz⟩ := T
  have hnb' : cellsAt S ⟨nb, 0, none⟩ (1 * 1) = some [.string x] := by
    unfold cellsAt St.row
    rw [hnb]; rfl
  have hadd : Mir.addedA P S #[t, t] 1 (.string ⟨#[]⟩) (.slice (some ⟨nb, 0, none⟩) 1 1) = some (1, [.string x]) := by
    unfold Mir.addedA
    have : Mir.zerosA P #[t, t] = some false := by
      unfold Mir.zerosA
      show (match P.underlying t with | some (.int _) => some true | some _ => some false | none => none) = _
      rw [hu]
    rw [this]
    simp only
    unfold lensA
    show (match firstA S 1 1 (.slice (some ⟨nb, 0, none⟩) 1 1) with | some l => some (1, l) | none => none) = _
    have : firstA S 1 1 (.slice (some ⟨nb, 0, none⟩) 1 1) = some [.string x] := hnb'
    rw [this]
  have start : ∀ k c a, sl = .slice a k c → k ≤ 1000000 → Mir.abuiltin P S .append #[t, t] [sl, .slice (some ⟨nb, 0, none⟩) 1 1] =
      (bif Nat.ble (k + 1) c then appendIn S 1 a k c (k + 1) [.string x] else match firstA S 1 k (.slice a k c), leaveOld S 9 1 a c with
        | some old, some s => bif old.all oneCell then newSlice s 9 (old ++ [.string x]) true (k + 1) (k + 1) else none
        | _, _ => none) := by
    intro k c a hsl hk
    subst hsl
    show Mir.aappend P S #[t, t] [.slice a k c, .slice (some ⟨nb, 0, none⟩) 1 1] = _
    unfold Mir.aappend
    show (match P.underlying t with | some (.slice elem) => _ | _ => none) = _
    rw [hu]
    simp only [hi, hz, hi1, hi2, hadd]
    rw [Nat.ble_eq_true_of_le (by omega)]
    rfl
  rcases hL with ⟨rfl, rfl⟩ | ⟨hne, g, rfl, hGg, hgn, hg⟩
  · refine ⟨.slice (some ⟨S.next, 0, none⟩) 1 1, S.push (.cells [.string x] 9 true), ?_, .inr ⟨by simp, S.next, rfl, hG, by simp, get_push_same _ (by omega)⟩, rfl, fun b hb => get_push_other _ (by omega) (by omega), fun b hb h => ?_⟩
    · rw [start 0 0 none rfl (by omega)]
      show (match firstA S 1 0 (.slice none 0 0), leaveOld S 9 1 none 0 with | some old, some s => _ | _, _ => none) = _
      show (bif ([] : List Value).all oneCell then newSlice S 9 ([] ++ [.string x]) true 1 1 else none) = _
      exact newSlice_eq 9 _ true 1 1 hn
    · simp at hb
      rw [St.get_push _ (by omega), if_neg (by omega)]; exact h
  · have hcell : firstA S 1 ls.length (.slice (some ⟨g, 0, none⟩) ls.length ls.length) = some (ls.map .string) := by
      unfold firstA
      have h0 : Nat.beq (ls.length * 1) 0 = false := by
        rw [Bool.eq_false_iff]; intro e
        have := Nat.eq_of_beq_eq_true e
        exact hne (List.eq_nil_of_length_eq_zero (by omega))
      simp only [h0, Nat.ble_eq_true_of_le (Nat.le_refl _), cond_false, cond_true]
      unfold cellsAt St.row
      rw [hg]
      simp only
      rw [Nat.ble_eq_true_of_le (by simp)]
      simp
      exact List.take_of_length_le (by simp)
    have hleave : leaveOld S 9 1 (some ⟨g, 0, none⟩) ls.length = some (S.put g .dead) := by
      unfold leaveOld
      simp only [hg]
      have : Nat.beq (0 + ls.length * 1) (ls.map Value.string).length = true := by simp
      simp only [this, Nat.beq_refl, cond_true]
    refine ⟨.slice (some ⟨S.next, 0, none⟩) (ls.length + 1) (ls.length + 1), (S.put g .dead).push (.cells (ls.map .string ++ [.string x]) 9 true), ?_, .inr ⟨by simp, S.next, by simp, by omega, by simp, ?_⟩, rfl, fun b hb => ?_, fun b hb h => ?_⟩
    · rw [start ls.length ls.length _ rfl hlen]
      have : Nat.ble (ls.length + 1) ls.length = false := by rw [Bool.eq_false_iff]; intro e; have := Nat.le_of_ble_eq_true e; omega
      rw [this, hcell, hleave]
      simp only [cond_false, one_strings, cond_true]
      exact newSlice_eq 9 _ true _ _ hn
    · rw [show S.next = (S.put g .dead).next from rfl, get_push_same _ (by show S.next < _; omega)]
      simp
    · rw [get_push_other _ (by show S.next < _; omega) (by show b < S.next; omega), get_put_other _ (by omega) (by omega)]
    · have hb' : S.next + 1 ≤ b := hb
      rw [St.get_push _ (by show S.next < _; omega), if_neg (by show b ≠ S.next; omega), get_put_other _ (by omega) (by omega)]
      exact h
end
end
end Go.Mig

namespace Go.Mig
open Go Go.Mir Go.Mif Go.RowKit
noncomputable section
section
variable {P : Program} {H : Hooks} {S S' S3 : St}

@[simp] theorem aop_bSlice (P : Program) (S : St) (e : Operand → Value) (d : Option Tmp) (t : TypeId) (p : String) (a : Array Edge) (g : Option (Nat × Bool)) (u : TypeId) (n : Nat) (ps : Array (Nat × Operand)) : Mif.aop (FP.of P) S e ⟨d, .buildSlice u n ps, t, p, a, g⟩ = Mif.opBuildSlice (FP.of P) S e u n ps := id rfl
@[simp] theorem aop_bAgg (P : Program) (S : St) (e : Operand → Value) (d : Option Tmp) (t : TypeId) (p : String) (a : Array Edge) (g : Option (Nat × Bool)) (u : TypeId) (ps : Array (Nat × Operand)) : Mif.aop (FP.of P) S e ⟨d, .build u ps, t, p, a, g⟩ = Mif.opBuild (FP.of P) S e u ps := id rfl
theorem abnd_nat (k : IntKind) (n d top : Nat) (h : n ≤ top) : Mir.abnd (some (.int k (n : Int))) d top = some n := by
  show (bif Nat.ble n top then some n else none) = _
  rw [Nat.ble_eq_true_of_le h]; rfl
theorem str_hi {t : TypeId} (hu : P.underlying t = some .string) (b : ByteArray) (k : IntKind) (n : Nat) (h : n ≤ b.data.toList.length) : Mir.aslice P S t (.string b) none (some (.int k (n : Int))) none = some (.string ⟨⟨b.data.toList.take n⟩⟩) := by
  unfold Mir.aslice
  simp only [hu]
  have : Mir.abounds b.data.toList.length b.data.toList.length none (some (.int k (n : Int))) none = some (0, n, b.data.toList.length) := by
    unfold Mir.abounds
    rw [show Mir.abnd none b.data.toList.length b.data.toList.length = some b.data.toList.length from rfl]
    simp only
    rw [abnd_nat _ _ _ _ h]; rfl
  simp only [this]
  rfl
theorem str_lo {t : TypeId} (hu : P.underlying t = some .string) (b : ByteArray) (k : IntKind) (n : Nat) (h : n ≤ b.data.toList.length) : Mir.aslice P S t (.string b) (some (.int k (n : Int))) none none = some (.string ⟨⟨b.data.toList.drop n⟩⟩) := by
  unfold Mir.aslice
  simp only [hu]
  have : Mir.abounds b.data.toList.length b.data.toList.length (some (.int k (n : Int))) none none = some (n, b.data.toList.length, b.data.toList.length) := by
    unfold Mir.abounds
    show (match Mir.abnd (some (.int k (n : Int))) 0 b.data.toList.length with | some l => some (l, b.data.toList.length, b.data.toList.length) | none => none) = _
    rw [abnd_nat _ _ _ _ h]
  simp only [this]
  rw [List.take_of_length_le (by simp)]
theorem len_str {t : TypeId} (hu : P.underlying t = some .string) (b : ByteArray) : Mir.abuiltin P S .len #[t] [.string b] = some (.int .i64 (b.data.toList.length : Int), S) := by
  show Mir.intOfNat? S (Mir.lenOfA P S t (.string b)) = _
  unfold Mir.lenOfA
  simp only [hu]
  rfl

theorem hDec_str2 (g : List Arg → Option Value) (a b : ByteArray) : hDec [none, none] g [.string a, .string b] S = withSt S (g [.v (.string a), .v (.string b)]) := id rfl

theorem index_range : ∀ (l s : List UInt8), Lib.index l s = -1 ∨ ∃ i : Nat, Lib.index l s = i ∧ i + s.length ≤ l.length
  | [], s => by
    unfold Lib.index
    cases s with
    | nil => exact .inr ⟨0, rfl, by simp⟩
    | cons a b => exact .inl rfl
  | c :: l, s => by
    unfold Lib.index
    split
    · rename_i h
      refine .inr ⟨0, rfl, ?_⟩
      have := List.isPrefixOf_iff_prefix.1 h
      have := this.length_le
      omega
    · rcases index_range l s with h | ⟨i, h, hi⟩
      · rw [h]; exact .inl rfl
      · rw [h]
        refine .inr ⟨i + 1, ?_, by simp; omega⟩
        rw [if_neg (by simp)]
        simp

/-- A function, by its body: with what its result keeps. -/
theorem EvFn.ofQ {f : FuncId} {fn : Func} {args : List Value} {c : Code} {R : Value → St → Prop} (hf : P.funcs[f]? = some fn) (hh : H f = none) (hb : fn.body = some c) (hn : Nat.ble fn.ntmps 1000000 = true) (hl : Nat.ble args.length fn.ntmps = true)
    (h : W P H c (Env.ofArgs args fn.ntmps) S fun x E' S2 => (x = .normal ∨ x = .ret) ∧ ∃ v, resultsG P S2 fn E' = some (v, S2) ∧ R v S2) : ∃ v S', EvFn P H f args S v S' ∧ R v S' := by
  obtain ⟨x, E', S2, h1, h2, v, h3, h4⟩ := h
  exact ⟨v, S2, .body hf hh hb hn hl h1 h2 h3, h4⟩

/-- A range over a function: the function is called with the round. -/
theorem W.range {id : Nat} {f : Operand} {ps : Array Tmp} {a b : Code} {E : Env} {g : FuncId} {fi ca : Array Value} {v : Value} {r : Loop} {Q : Ex → Env → St → Prop}
    (hf : evG E f = .func (.func g) fi ca) (hg : H g = none) (hE : E.n ≤ 1000000) (hn : S.next ≤ 1073741823)
    (h : EvFn P H g (fi.toList ++ [.func (.yield S.next) #[] #[]] ++ ca.toList) (S.push (.obj (.loop { state := .ready, pending := none, fn := 0, tmps := ⟨E.list⟩, params := ps, assign := a, body := b, defers := 0 }))) v S')
    (hl : S'.get S.next = some (.obj (.loop r))) (hr : r.state = .ready) (hp : r.pending = none)
    (k : Q .normal E (S'.put S.next (.obj (.loop { r with state := .exhausted })))) : W P H (.rangeFunc f ps a b) E S Q := by
  obtain ⟨n, h⟩ := h
  refine ⟨.normal, _, _, ⟨n + 1, ?_⟩, k⟩
  show Mig.rangeG P H (runCodeG P H n) (evG E f) ps a b E S = _
  unfold rangeG
  have : Nat.ble E.list.length 1000000 = true := Nat.ble_eq_true_of_le (by unfold Env.list; simpa using hE)
  rw [this]
  rw [newObj_eq _ hn, hf]
  simp only [cond_true, hg, h]
  unfold endRangeG
  simp only [hl, hr, hp]
  rfl
end
end
end Go.Mig

namespace Go.Mig
open Go Go.Mir Go.Mif Go.RowKit
noncomputable section
section
variable {P : Program} {H : Hooks} {S S' S3 : St}

/-- The begin of a slice, as a text. -/
theorem take_str {t ts e : Nat} (h1 : P.underlying t = some (.slice e)) (h2 : P.underlying ts = some .string) (h3 : P.underlying e = some (.int .u8)) (hs : Mir.sizeT P e = some 1) {v : Value} {l : List UInt8} (hi : IsB S v l) (hl : l ≠ []) {k : Nat} (hk : k ≤ l.length) :
    ∃ v', Mir.aslice P S t v none (some (.int .i64 (k : Int))) none = some v' ∧ Mir.aconvert P S t ts v' = some (.string ⟨⟨l.take k⟩⟩, S) := by
  obtain ⟨v', e1, e2⟩ := take_isB h1 hs hi hk
  refine ⟨v', e1, ?_⟩
  obtain ⟨a, c, rfl, hc, h4, h5⟩ := hi
  rcases h5 with h5 | ⟨b, o, rfl, h6⟩
  · exact absurd h5 hl
  · have hb : Mir.abounds l.length c none (some (.int .i64 (k : Int))) none = some (0, k, c) := by
      unfold Mir.abounds
      rw [show Mir.abnd none c c = some c from rfl]
      simp only
      rw [abnd_nat _ _ _ _ (by omega)]; rfl
    have e0 : Mir.aslice P S t (.slice (some ⟨b, o, none⟩) l.length c) none (some (.int .i64 (k : Int))) none = some (.slice (some ⟨b, o, none⟩) k c) := by
      unfold Mir.aslice
      rw [h1]
      simp only
      unfold Mir.asliceSlice
      rw [hb, hs]
      simp only [show Nat.beq 0 0 = true from rfl, Bool.true_or, Nat.ble_eq_true_of_le hc, Bool.and_self, cond_true, addr_add, Nat.zero_mul, Nat.add_zero, Nat.sub_zero]
    rw [e1] at e0
    obtain rfl := Option.some.inj e0
    by_cases hk0 : k = 0
    · subst hk0
      show (match P.underlying t, P.underlying ts with | some (.slice _), some (.slice e) => _ | some (.slice e), some .string => Mir.toStringA P S e _ 0 | _, _ => none) = _
      rw [h1, h2]
      simp only
      unfold Mir.toStringA
      rw [h3]
      simp only
      unfold cellsAt at h6 ⊢
      simp only at h6 ⊢
      cases hr : S.row b with
      | none => rw [hr] at h6; cases h6
      | some row =>
        rw [hr] at h6
        obtain ⟨hle, _⟩ := cond_some' h6
        have hle := Nat.le_of_ble_eq_true hle
        simp only
        rw [Nat.ble_eq_true_of_le (by omega)]
        simp only [cond_true, List.take_zero]
        rfl
    · exact str_isB h1 h2 h3 e2 (by intro e; have := congrArg List.length e; rw [List.length_take] at this; have : min k l.length = 0 := this; omega)

theorem conv_same {t e : Nat} (h1 : P.underlying t = some (.slice e)) (h3 : P.underlying e = some (.int .u8)) {b o l c : Nat} {cs : List Value} {e' : TypeId} {g : Bool} (hg : S.get b = some (.cells cs e' g)) (hc : c ≠ 0) : Mir.aconvert P S t t (.slice (some ⟨b, o, none⟩) l c) = some (.slice (some ⟨b, o, none⟩) l c, S) := by
  show (match P.underlying t, P.underlying t with | some (.slice _), some (.slice e) => Mir.sameBytesA P S t t e ⟨b, o, none⟩ l c | some (.slice e), some .string => _ | _, _ => none) = _
  rw [h1]
  simp only
  unfold Mir.sameBytesA
  rw [h3]
  simp only [hg, Nat.beq_refl, Bool.true_and]
  rw [show Nat.beq c 0 = false by rw [Bool.eq_false_iff]; intro e; exact hc (Nat.eq_of_beq_eq_true e)]
  rfl
/-- A fresh slice of bytes. -/
theorem isB_new (l : List UInt8) (e : TypeId) (g : Bool) (h : S.next < 1073741824) (hl : l ≠ []) : IsB (S.push (.cells (cellsOfBytes l) e g)) (.slice (some ⟨S.next, 0, none⟩) l.length l.length) l := by
  refine ⟨_, _, rfl, Nat.le_refl _, fun h => (by cases h), .inr ⟨S.next, 0, rfl, ?_⟩⟩
  unfold cellsAt St.row
  rw [get_push_same _ h]
  simp only
  have : (cellsOfBytes l).length = l.length := by unfold cellsOfBytes; simp
  rw [Nat.ble_eq_true_of_le (by omega)]
  simp only [cond_true, List.drop_zero]
  rw [← this, List.take_length]
theorem hDec_two (g : List Arg → Option Value) {x y : Value} {l s : List UInt8} (hx : IsB S x l) (hy : IsB S y s) : hDec [some 1, some 1] g [x, y] S = withSt S (g [.s l.length (cellsOfBytes l), .s s.length (cellsOfBytes s)]) := by
  unfold hDec
  have : decAll S [some 1, some 1] [x, y] = some [.s l.length (cellsOfBytes l), .s s.length (cellsOfBytes s)] := by
    show (match decA S (some 1) x, (match decA S (some 1) y, decAll S [] [] with | some d, some ds => some (d :: ds) | _, _ => none) with | some d, some ds => some (d :: ds) | _, _ => none) = _
    rw [dec_isB hx, dec_isB hy]; rfl
  rw [this]

/-- The temporaries of a round of one. -/
theorem round_env1 (E : Env) (t : Tmp) (x : Value) (ht : t < E.n) : Env.ofArgs (roundTmps [(t, x)] E.list) E.list.length = ⟨E.n, fun i => if i < E.n then (if i = t then x else E.get i) else undef⟩ := by
  have hl : E.list.length = E.n := by unfold Env.list; simp
  unfold Env.ofArgs
  rw [hl]
  congr 1
  funext i
  show (E.list.set t x).getD i undef = _
  rw [List.getD_eq_getElem?_getD, List.getElem?_set, hl]
  by_cases hi : i < E.n
  · rw [if_pos hi]
    by_cases he : t = i
    · subst he; rw [if_pos rfl, if_pos hi, if_pos rfl]; rfl
    · rw [if_neg he, if_neg (fun h => he h.symm)]
      unfold Env.list
      rw [List.getElem?_map, List.getElem?_range hi]; rfl
  · have h0 : E.list[i]? = none := List.getElem?_eq_none (by rw [hl]; omega)
    rw [if_neg hi, if_neg (fun e : t = i => hi (e ▸ ht)), h0]; rfl

theorem round_W {l : Nat} {r : Loop} {args : List Value} {R : St → Prop} (hS : S.get l = some (.obj (.loop r))) (hst : r.state = .ready) (hpe : r.pending = none) (hl : Nat.beq args.length r.params.toList.length = true) (hn1 : noRange r.assign = true) (hn2 : noRange r.body = true) (hn : r.tmps.toList.length ≤ 1000000)
    (h : W P H r.assign (Env.ofArgs (roundTmps (r.params.toList.zip args) r.tmps.toList) r.tmps.toList.length) S fun x E1 S1 => x = .normal ∧ S1 = S ∧ W P H r.body E1 (S.put l (.obj (.loop { r with state := .busy }))) fun x _ S3 => x = .normal ∧ S3.get l = some (.obj (.loop { r with state := .busy })) ∧ R S3) :
    ∃ n S3, roundG (runCodeG P H n) l args S = some (.bool true, S3.put l (.obj (.loop r))) ∧ R S3 := by
  obtain ⟨x, E1, S1, h1, rfl, rfl, y, E3, S3, h2, rfl, h3, h4⟩ := h
  obtain ⟨n, hn⟩ := round_normal hS hst hpe hl hn1 hn2 hn h1 h2 h3
  exact ⟨n, S3, hn, h4⟩

theorem W.rangeQ {f : Operand} {ps : Array Tmp} {a b : Code} {E : Env} {g : FuncId} {fi ca : Array Value} {Q : Ex → Env → St → Prop}
    (hf : evG E f = .func (.func g) fi ca) (hg : H g = none) (hE : E.n ≤ 1000000) (hn : S.next ≤ 1073741823)
    (k : ∀ r : Loop, r = { state := .ready, pending := none, fn := 0, tmps := ⟨E.list⟩, params := ps, assign := a, body := b, defers := 0 } →
      ∃ v S', EvFn P H g (fi.toList ++ [.func (.yield S.next) #[] #[]] ++ ca.toList) (S.push (.obj (.loop r))) v S' ∧ S'.get S.next = some (.obj (.loop r)) ∧ Q .normal E (S'.put S.next (.obj (.loop { r with state := .exhausted })))) : W P H (.rangeFunc f ps a b) E S Q := by
  obtain ⟨v, S', h1, h2, h3⟩ := k _ rfl
  exact W.range (id := 0) hf hg hE hn h1 h2 rfl rfl h3
end
end
end Go.Mig

namespace Go.Mig
open Go Go.Mir Go.Mif Go.RowKit Go.ChangeShapes Go.WideShapes
noncomputable section
section
variable {H : Type} {enc : TypeId × Value → H} {P : Program} {w : World} {base : Nat} {held : Bool}

theorem cell_block {a : Addr} {v : Value} (h : w.cell? a = some v) : a.spot = none ∧ ∃ C e F, w.heap[a.block]? = some (.cells C e F) ∧ C[a.off]? = some v := by
  unfold World.cell? at h
  split at h
  · rename_i C e F hb
    split at h
    · cases h
    · rename_i hs
      refine ⟨by cases ha : a.spot with | none => rfl | some x => rw [ha] at hs; exact absurd rfl hs, C, e, F, hb, h⟩
  · cases h

theorem dec_bytes {t e : TypeId} {fuel : Nat} {v : Value} {x : DataW H × List MemPlace} (ht : P.underlying t = some (.slice e)) (he : P.underlying e = some (.int .u8)) (hc : P.cellsOf e = 1)
    (h : DataW.trod enc P w base (fun _ => true) held fuel t [v] = some x) : ∃ l : List UInt8, DecAt w (some 1) (.s l.length (cellsOfBytes l)) v := by
  rcases open_ints ht he hc h with ⟨h1, _⟩ | ⟨a, len, cap, zs, h1, _, hl, _, hz, _, hcell, hwf⟩
  · cases h1; exact ⟨[], .nil 1⟩
  · cases h1
    simp only [if_true] at hz
    by_cases h0 : cap = 0
    · subst h0
      obtain rfl : len = 0 := by omega
      exact ⟨[], .zero 1 a⟩
    · obtain ⟨b, o, s⟩ := a
      have c0 := hcell 0 (by omega)
      rw [show (⟨b, o, s⟩ : Addr).add 0 = ⟨b, o, s⟩ by unfold Addr.add; rw [if_pos rfl]] at c0
      obtain ⟨hs, C, e', F, hb, _⟩ := cell_block c0
      simp only at hs hb
      subst hs
      have hlt : b < w.heap.size := by
        by_cases hlt : b < w.heap.size
        · exact hlt
        · rw [Array.getElem?_eq_none (by omega)] at hb; cases hb
      by_cases hn : len = 0
      · subst hn; exact ⟨[], .zeroC 1 b o cap hlt⟩
      · have hlen : ((zs.take len).map fun z => UInt8.ofNat z.toNat).length = len := by rw [List.length_map, List.length_take]; omega
        refine ⟨(zs.take len).map fun z => UInt8.ofNat z.toNat, ?_⟩
        have hcs : ∀ i x, (cellsOfBytes ((zs.take len).map fun z => UInt8.ofNat z.toNat))[i]? = some x → C.toList[o + i]? = some x := by
          intro i x hx
          unfold cellsOfBytes at hx
          rw [List.getElem?_map, List.getElem?_map, List.getElem?_take] at hx
          by_cases hi : i < len
          · rw [if_pos hi, List.getElem?_eq_getElem (by omega)] at hx
            simp only [Option.map_some, Option.some.injEq] at hx
            have hci := hcell i (by omega)
            rw [addr_add] at hci
            obtain ⟨_, C', e2, F2, hb', hc'⟩ := cell_block hci
            simp only at hb' hc'
            rw [hb] at hb'
            cases hb'
            rw [Array.getElem?_toList, hc', ← hx, List.getD_eq_getElem?_getD, List.getElem?_eq_getElem (by omega)]
            have hw := hwf zs[i] (List.getElem_mem _)
            simp only [Option.getD_some]
            congr 2
            have : 0 ≤ zs[i] ∧ zs[i] < 256 := by
              unfold Lit.wf at hw
              obtain ⟨h1, h2⟩ := Bool.and_eq_true_iff.1 hw
              have h1 : (0 : Int) ≤ zs[i] := of_decide_eq_true h1
              have h2 : zs[i] ≤ (255 : Int) := of_decide_eq_true h2
              omega
            rw [UInt8.toNat_ofNat', Nat.mod_eq_of_lt (by omega)]
            omega
          · rw [if_neg hi] at hx; cases hx
        have := DecAt.some (w := w) 1 len (cellsOfBytes ((zs.take len).map fun z => UInt8.ofNat z.toNat)) b o cap C e' F hl (plain_bytes _) (by unfold cellsOfBytes; rw [List.length_map, hlen, Nat.mul_one]) hb hcs
        rw [hlen]; exact this
end
end
end Go.Mig

namespace Go.Mig
open Go Go.Mir Go.Mif Go.RowKit
noncomputable section
section
variable {P : Program} {H : Hooks} {S S' S3 : St}

theorem splice_one : ∀ (cs : List Value) (i : Nat) (v : Value), i < cs.length → Mir.splice cs i [v] = cs.set i v := by
  intro cs i v h
  unfold Mir.splice
  rw [List.set_eq_take_append_cons_drop, if_pos h]
  simp
theorem store_cell {t : Nat} {b o : Nat} {v : Value} {cs : List Value} {e : TypeId} {g : Bool} (hs : Mir.sizeT P t = some 1) (h : S.get b = some (.cells cs e g)) (hv : v.cells.toList = [v]) (ho : oneCell v = true) (hl : o < cs.length) :
    Mir.opStore P S t v (.pointer (some ⟨b, o, none⟩)) = some (.val undef (S.put b (.cells (cs.set o v) e g))) := by
  show ru (Mir.storeT P S t ⟨b, o, none⟩ v) = _
  unfold Mir.storeT
  rw [hs]
  simp only
  have hz : v.cells.size = 1 := by rw [← Array.length_toList, hv]; rfl
  rw [hz, hv]
  simp only [List.all_cons, ho, List.all_nil, Bool.and_self, beq_self_eq_true, cond_true]
  unfold storeCellsA
  simp only [h, List.length_singleton]
  rw [Nat.ble_eq_true_of_le (by omega), splice_one _ _ _ hl]
  rfl
theorem cell_at {b i : Nat} {v : Value} {cs : List Value} {e : TypeId} {g : Bool} (h : S.get b = some (.cells cs e g)) (hv : cs[i]? = some v) : cellAt S ⟨b, i, none⟩ = some v := by
  unfold cellAt St.row
  rw [h]; exact hv
theorem bytes_set (l : List UInt8) (i : Nat) (c : UInt8) : (cellsOfBytes l).set i (.int .u8 (c.toNat : Int)) = cellsOfBytes (l.set i c) := by
  unfold cellsOfBytes
  rw [List.map_set]
theorem conv_int {t u : TypeId} {d : TypeDesc} {k : IntKind} (h1 : P.underlying t = some d) (h2 : P.underlying u = some (.int k)) (k' : IntKind) (n : Int) : Mir.aconvert P S t u (.int k' n) = some (.int k (wrapA k n), S) := by
  show (match P.underlying t, P.underlying u with | some _, some (.int k) => some (Value.int k (wrapA k n), S) | some _, some .string => some (.string (Utf8.encode n), S) | _, _ => none) = _
  rw [h1, h2]
theorem conv_bytes {t u e : TypeId} (h1 : P.underlying t = some .string) (h2 : P.underlying u = some (.slice e)) (h3 : P.underlying e = some (.int .u8)) (h4 : Mir.sizeT P e = some 1) (s : ByteArray) (hl : s.data.toList.length ≤ 1099511627776) (hn : S.next ≤ 1073741823) :
    Mir.aconvert P S t u (.string s) = some (.slice (some ⟨S.next, 0, none⟩) s.data.toList.length s.data.toList.length, S.push (.cells (cellsOfBytes s.data.toList) e true)) := by
  show (match P.underlying t, P.underlying u with | some _, some .string => some (Value.string s, S) | some _, some (.slice e) => Mir.toBytesA P S e s.data.toList | _, _ => none) = _
  rw [h1, h2]
  simp only
  unfold Mir.toBytesA
  rw [h3, h4]
  simp only
  rw [Nat.ble_eq_true_of_le hl]
  exact newSlice_eq _ _ _ _ _ hn
/-- A whole block of bytes, as a text. -/
theorem conv_text {t u e : TypeId} (h1 : P.underlying t = some (.slice e)) (h2 : P.underlying u = some .string) (h3 : P.underlying e = some (.int .u8)) {b : Nat} {l : List UInt8} {e' : TypeId} {g : Bool} (h : S.get b = some (.cells (cellsOfBytes l) e' g)) (c : Nat) :
    Mir.aconvert P S t u (.slice (some ⟨b, 0, none⟩) l.length c) = some (.string ⟨⟨l⟩⟩, S) := by
  show (match P.underlying t, P.underlying u with | some (.slice _), some (.slice e) => _ | some (.slice e), some .string => Mir.toStringA P S e _ l.length | _, _ => none) = _
  rw [h1, h2]
  simp only
  unfold Mir.toStringA
  rw [h3]
  simp only
  have : cellsAt S ⟨b, 0, none⟩ l.length = some (cellsOfBytes l) := by
    unfold cellsAt St.row
    rw [h]
    simp only
    have hl : (cellsOfBytes l).length = l.length := by unfold cellsOfBytes; simp
    rw [Nat.ble_eq_true_of_le (by omega)]
    simp only [cond_true, List.drop_zero]
    rw [← hl, List.take_length]
  rw [this]
  simp only [bytesOf_cells]
end
end
end Go.Mig
