/- An abstract, deterministic machine over the model's code, and the proof that whatever runs through in it is what the code does in every world (part 3 of 4; no condition of its own). -/
import Derived.Test.YtjcfoofbagpooaaDoorMach0
import Derived.Test.YtjcfoofbagpooaaDoorMach1
import Derived.ChangeSame
import Derived.Carry
import Derived.ProofKit
import Derived.OpenShut
namespace Go.Mif
open Go Go.Mir
noncomputable section

/-- The program, and ways to look its types and functions up. -/
structure FP where
  prog : Program
  info? : TypeId → Option TypeInfo
  underlying : TypeId → Option TypeDesc
  fun? : FuncId → Option Func

def FP.stoodInHeld (P : FP) (t : TypeId) : Bool := P.prog.stoodInHeld t
def FP.eqGuardType (P : FP) : Nat → TypeId → Bool := P.prog.eqGuardType
def FP.depth (P : FP) : Nat := P.prog.depth
def FP.of (P : Program) : FP := ⟨P, P.info?, P.underlying, fun f => P.funcs[f]?⟩

/-- The temporaries: a tree of a shape that does not change. -/
abbrev Env := T Value

def Env.get (E : Env) (i : Nat) : Value := Option.rec (motive := fun _ => Value) undef (fun v => v) (T.get E i)
/-- Another value at a place that is there. -/
def Env.set (E : Env) (n : Nat) (a : Value) : Env :=
  T.rec (motive := fun _ => Nat → T Value) (fun _ => .leaf)
    (fun l v r setl setr n => Bool.rec (motive := fun _ => T Value) (Bool.rec (motive := fun _ => T Value) (.node l v (setr (Nat.sub (Nat.div n 2) 1))) (.node (setl (Nat.div n 2)) v r) (Nat.beq (Nat.mod n 2) 1)) (.node l (some a) r) (Nat.beq n 0)) E n
/-- So many places. -/
def Env.room (f : Nat) (n : Nat) : Env :=
  Nat.rec (motive := fun _ => Nat → T Value) (fun _ => .leaf)
    (fun _ ih n => Bool.rec (motive := fun _ => T Value) (.node (ih (Nat.div n 2)) (some undef) (ih (Nat.div (Nat.sub n 1) 2))) .leaf (Nat.beq n 0)) f n
def Env.list (E : Env) : Nat → Nat → List Value
  | 0, _ => []
  | f + 1, i => match T.get E i with
    | some v => v :: Env.list E f (i + 1)
    | none => []
def Env.fill : List Value → Nat → Env → Env
  | [], _, E => E
  | v :: l, i, E => Env.fill l (i + 1) (E.set i v)
/-- Temporaries: these first; undefined behind. -/
def Env.ofArgs (l : List Value) (n : Nat) : Env := Env.fill l 0 (Env.room 40 n)

def evF (E : Env) : Operand → Value
  | .tmp t => E.get t
  | .const v => bif plainV v then v else undef
  | .global _ => undef
  | .func f => .func (.func f) #[] #[]
def putF (E : Env) : Option Tmp → Value → Env
  | some d, v => E.set d v
  | none, _ => E

def sizeT (P : FP) (t : TypeId) : Option Nat := (P.info? t).map (·.size)
def zeroT (P : FP) (t : TypeId) : Option Value :=
  match P.info? t with
  | some i => match i.zero with
    | some z => bif plainV z then some z else none
    | none => none
  | none => none
def newVar (P : FP) (s : St) (elem : TypeId) (cs : List Value) : Option ARes :=
  match sizeT P elem with
  | some _ => bif Nat.ble s.next 1073741823 && cs.all oneCell then some (.val (.pointer (some ⟨s.next, 0, none⟩)) (s.push (.cells cs elem false))) else none
  | none => none
def aggT (P : FP) (t : TypeId) : Option Bool :=
  match P.underlying t with
  | some (.struct _) | some (.array _ _) => some true
  | some _ => some false
  | none => none
def loadT (P : FP) (s : St) (t : TypeId) (a : Addr) : Option Value :=
  match aggT P t with
  | some true => match sizeT P t with
    | some n => match cellsAt s a n with
      | some l => some (.agg ⟨l⟩)
      | none => none
    | none => none
  | some false => cellAt s a
  | none => none
def storeT (P : FP) (s : St) (t : TypeId) (a : Addr) (v : Value) : Option St :=
  match sizeT P t with
  | some n => bif v.cells.size == n && v.cells.toList.all oneCell then storeCellsA s a v.cells.toList else none
  | none => none
def partT (P : FP) (t : TypeId) (cs : Array Value) (off : Nat) : Option Value :=
  match aggT P t with
  | some true => match sizeT P t with
    | some n => some (.agg ⟨(cs.toList.drop off).take n⟩)
    | none => none
  | some false => cs.toList[off]?
  | none => none
def aeqFields (P : FP) (rec : TypeId → Value → Value → Option Bool) (xs ys : Array Value) : List Field → Option Bool
  | [] => some true
  | f :: fs =>
    if f.name ≠ "_" then
      match partT P f.type xs f.offset, partT P f.type ys f.offset with
      | some a, some b => match rec f.type a b with
        | some true => aeqFields P rec xs ys fs
        | some false => some false
        | none => none
      | _, _ => none
    else aeqFields P rec xs ys fs
def aeqElems (P : FP) (rec : TypeId → Value → Value → Option Bool) (elem : TypeId) (n : Nat) (xs ys : Array Value) : List Nat → Option Bool
  | [] => some true
  | i :: is =>
    match partT P elem xs (i * n), partT P elem ys (i * n) with
    | some a, some b => match rec elem a b with
      | some true => aeqElems P rec elem n xs ys is
      | some false => some false
      | none => none
    | _, _ => none
def aeqIface (P : FP) (rec : TypeId → Value → Value → Option Bool) (tx ty : TypeId) (vx vy : Value) : Option Bool :=
  bif Nat.beq tx ty then
    match P.info? tx with
    | some i => bif i.comparable then rec tx vx vy else none
    | none => none
  else some false
def aeq (P : FP) : Nat → TypeId → Value → Value → Option Bool
  | 0, _, _, _ => none
  | d + 1, t, x, y =>
    match P.underlying t, x, y with
    | some .bool, .bool a, .bool b => some (a == b)
    | some (.int _), .int k a, .int k' b => bif kindEq k k' then some (intEq a b) else none
    | some .string, .string a, .string b => some (bytesEq a.data.toList b.data.toList)
    | some (.pointer _), .pointer none, .pointer b => some b.isNone
    | some (.pointer _), .pointer (some _), .pointer none => some false
    | some (.interface _), .nilIface, .nilIface => some true
    | some (.interface _), .nilIface, .iface _ _ => some false
    | some (.interface _), .iface _ _, .nilIface => some false
    | some (.interface _), .iface tx vx, .iface ty vy => aeqIface P (aeq P d) tx ty vx vy
    | some (.struct fields), .agg xs, .agg ys => bif P.stoodInHeld t then none else aeqFields P (aeq P d) xs ys fields.toList
    | some (.array len elem), .agg xs, .agg ys =>
      match sizeT P elem with
      | some n => aeqElems P (aeq P d) elem n xs ys (List.range' 0 len)
      | none => none
    | some (.slice _), .slice none _ _, .slice b _ _ => some b.isNone
    | some (.slice _), .slice (some _) _ _, .slice none _ _ => some false
    | some (.map _ _), .map none, .map b => some b.isNone
    | some (.map _ _), .map (some _), .map none => some false
    | some (.func _ _ _), .nilFunc, .nilFunc => some true
    | some (.func _ _ _), .nilFunc, .func _ _ _ => some false
    | some (.func _ _ _), .func _ _ _, .nilFunc => some false
    | _, _, _ => none
def eqGuardA (P : FP) (t : TypeId) (xo yo : Operand) (x y : Value) : Bool :=
  match x, y with
  | .nilIface, .nilIface => isConst xo || isConst yo
  | .agg _, .agg _ => !P.eqGuardType P.depth t
  | _, _ => true
def abinOther (P : FP) (op : BinOp) (t : TypeId) (xo yo : Operand) (x y : Value) : Option Value :=
  bif eqGuardA P t xo yo x y then
    match op with
    | .eql => (aeq P 20 t x y).map .bool
    | .neq => (aeq P 20 t x y).map fun b => .bool (!b)
    | _ => none
  else none
def abin (P : FP) (op : BinOp) (t : TypeId) (xo yo : Operand) (x y : Value) : Option Value :=
  match x, y with
  | .int k a, .int k' b => aint op k a k' b
  | .string a, .string b => astr op a.data.toList b.data.toList
  | x, y => abinOther P op t xo yo x y
def toBytesA (P : FP) (s : St) (e : TypeId) (l : List UInt8) : Option (Value × St) :=
  match P.underlying e, sizeT P e with
  | some (.int .u8), some 1 => bif Nat.ble l.length 1099511627776 then newSlice s e (cellsOfBytes l) true l.length l.length else none
  | _, _ => none
def sameBytesA (P : FP) (s : St) (src dst e : TypeId) (a : Addr) (l c : Nat) : Option (Value × St) :=
  match P.underlying e, s.get a.block with
  | some (.int .u8), some (.cells _ _ _) => bif Nat.beq src dst && !(Nat.beq c 0) then some (.slice (some a) l c, s) else none
  | _, _ => none
def toStringA (P : FP) (s : St) (e : TypeId) (a : Option Addr) (l : Nat) : Option (Value × St) :=
  match P.underlying e with
  | some (.int .u8) =>
    match a with
    | none => some (.string .empty, s)
    | some a => match cellsAt s a l with
      | some cs => match bytesOfCells cs with
        | some b => some (.string ⟨⟨b⟩⟩, s)
        | none => none
      | none => none
  | _ => none
def aconvert (P : FP) (s : St) (src dst : TypeId) (x : Value) : Option (Value × St) :=
  match x with
  | .int _ n => match P.underlying src, P.underlying dst with
    | some _, some (.int k) => some (.int k (wrapA k n), s)
    | some _, some .string => some (.string (Utf8.encode n), s)
    | _, _ => none
  | .string b => match P.underlying src, P.underlying dst with
    | some _, some .string => some (.string b, s)
    | some _, some (.slice e) => toBytesA P s e b.data.toList
    | _, _ => none
  | .slice a l c => match P.underlying src, P.underlying dst with
    | some (.slice _), some (.slice e) => match a with
      | some a => sameBytesA P s src dst e a l c
      | none => none
    | some (.slice e), some .string => toStringA P s e a l
    | _, _ => none
  | _ => none
def mayCut (P : FP) (s : St) (b : Nat) (sz : Nat) : Bool :=
  match s.get b with
  | some (.cells _ _ false) => true
  | some (.cells _ e true) | some (.ro _ e) => match sizeT P e with
    | some n => Nat.beq n sz
    | none => false
  | _ => false
def asliceSlice (P : FP) (s : St) (elem : TypeId) (a : Option Addr) (len cap : Nat) (lo hi mx : Option Value) : Option Value :=
  match abounds len cap lo hi mx, sizeT P elem with
  | some (l, h, m), some sz =>
    match a with
    | none => bif Nat.ble len cap then some (.slice none (h - l) (m - l)) else none
    | some a => bif (Nat.beq l 0 || mayCut P s a.block sz) && Nat.ble len cap then some (.slice (some (a.add (l * sz))) (h - l) (m - l)) else none
  | _, _ => none
def asliceArr (P : FP) (n : Nat) (elem : TypeId) (a : Addr) (lo hi mx : Option Value) : Option Value :=
  match abounds n n lo hi mx, sizeT P elem with
  | some (l, h, m), some sz => some (.slice (some (a.add (l * sz))) (h - l) (m - l))
  | _, _ => none
def aslice (P : FP) (s : St) (t : TypeId) (x : Value) (lo hi mx : Option Value) : Option Value :=
  match P.underlying t, x with
  | some (.array n elem), .pointer (some a) => asliceArr P n elem a lo hi mx
  | some (.pointer arr), .pointer (some a) =>
    match P.underlying arr with
    | some (.array n elem) => asliceArr P n elem a lo hi mx
    | _ => none
  | some .string, .string b =>
    match mx, abounds b.data.toList.length b.data.toList.length lo hi none with
    | none, some (l, h, _) => some (.string ⟨⟨(b.data.toList.drop l).take (h - l)⟩⟩)
    | _, _ => none
  | some (.slice elem), .slice a len cap => asliceSlice P s elem a len cap lo hi mx
  | _, _ => none
def aindexAddr (P : FP) (t : TypeId) (x ix : Value) : Option Value :=
  match P.underlying t, x, ix with
  | some (.array len elem), .pointer (some a), .int _ (.ofNat i) =>
    bif Nat.blt i len then (sizeT P elem).map fun sz => .pointer (some (a.add (i * sz))) else none
  | some (.slice elem), .slice (some a) len _, .int _ (.ofNat i) =>
    bif Nat.blt i len then (sizeT P elem).map fun sz => .pointer (some (a.add (i * sz))) else none
  | _, _, _ => none
def aindex (P : FP) (t : TypeId) (x ix : Value) : Option Value :=
  match P.underlying t, x, ix with
  | some (.array len elem), .agg cs, .int _ (.ofNat i) =>
    bif Nat.blt i len then match sizeT P elem with
      | some sz => partT P elem cs (i * sz)
      | none => none
    else none
  | some .string, .string b, .int _ (.ofNat i) => (b.data.toList[i]?).map fun c => .int .u8 c.toNat
  | _, _, _ => none
def zerosA (P : FP) (argTypes : Array TypeId) : Option Bool :=
  match argTypes[1]? with
  | some xT => match P.underlying xT with
    | some (.int _) => some true
    | some _ => some false
    | none => none
  | none => some false
def addedA (P : FP) (s : St) (argTypes : Array TypeId) (size : Nat) (z : Value) (x : Value) : Option (Nat × List Value) :=
  match zerosA P argTypes with
  | some true =>
    match x with
    | .int _ (.ofNat l) => some (l, rep z.cells.toList l)
    | _ => none
  | some false => lensA s size x
  | none => none
def aappend (P : FP) (s : St) (argTypes : Array TypeId) (args : List Value) : Option (Value × St) :=
  match argTypes[0]?, args with
  | some sT, [.slice base sLen sCap, x] =>
    match P.underlying sT with
    | some (.slice elem) =>
      match P.info? elem, zeroT P elem with
      | some info, some z =>
        match addedA P s argTypes info.size z x with
        | some (n, new) =>
          bif Nat.ble ((sLen + n) * (info.bytes + 1)) 68719476736 && new.all oneCell && Nat.beq new.length (n * info.size) && Nat.beq z.cells.toList.length info.size then
            bif Nat.ble (sLen + n) sCap then appendIn s info.size base sLen sCap (sLen + n) new
            else match firstA s info.size sLen (.slice base sLen sCap), leaveOld s elem info.size base sCap with
              | some old, some s => bif old.all oneCell then newSlice s elem (old ++ new) true (sLen + n) (sLen + n) else none
              | _, _ => none
          else none
        | none => none
      | _, _ => none
    | _ => none
  | _, _ => none
def acopy (P : FP) (s : St) (argTypes : Array TypeId) (args : List Value) : Option (Value × St) :=
  match argTypes[0]?, args with
  | some dT, [.slice base dLen _, src] =>
    match P.underlying dT with
    | some (.slice elem) =>
      match sizeT P elem, lenA src with
      | some size, some sl =>
        match firstA s size (bif Nat.ble sl dLen then sl else dLen) src with
        | some new =>
          bif new.all oneCell then
          match base with
          | some a => match storeCellsA s a new with
            | some s => some (.int .i64 (.ofNat (bif Nat.ble sl dLen then sl else dLen)), s)
            | none => none
          | none => some (.int .i64 (.ofNat (bif Nat.ble sl dLen then sl else dLen)), s)
          else none
        | none => none
      | _, _ => none
    | _ => none
  | _, _ => none
def lenOfA (P : FP) (s : St) (t : TypeId) (x : Value) : Option Nat :=
  match P.underlying t, x with
  | some .string, .string b => some b.data.toList.length
  | some (.array n _), _ => some n
  | some (.slice _), .slice _ n _ => some n
  | some (.map _ _), .map none => some 0
  | some (.map _ _), .map (some r) => match s.get r with
    | some (.obj (.map es _)) => some es.toList.length
    | _ => none
  | _, _ => none
def capOfA (P : FP) (s : St) (t : TypeId) (x : Value) : Option Nat :=
  match P.underlying t, x with
  | some (.slice _), .slice none _ c => some c
  | some (.slice _), .slice (some a) _ c => match s.get a.block with
    | some (.cells _ _ false) => some c
    | _ => none
  | _, _ => none
def abuiltin (P : FP) (s : St) (b : Builtin) (argTypes : Array TypeId) (args : List Value) : Option (Value × St) :=
  match b with
  | .append => aappend P s argTypes args
  | .copy => acopy P s argTypes args
  | .len => match argTypes[0]?, args with
    | some t, [x] => intOfNat? s (lenOfA P s t x)
    | _, _ => none
  | .cap => match argTypes[0]?, args with
    | some t, [x] => intOfNat? s (capOfA P s t x)
    | _, _ => none
  | .min => withSt s (extremeA false args)
  | .max => withSt s (extremeA true args)
  | _ => none
def plainKey (P : FP) (t : TypeId) : Option TypeDesc :=
  match P.underlying t with
  | some (.int k) => some (.int k)
  | some .string => some .string
  | some .bool => some .bool
  | _ => none
def alookup (P : FP) (s : St) (t : TypeId) (x k : Value) (ok : Bool) : Option Value :=
  match P.underlying t with
  | some (.map kT eT) => match plainKey P kT, entriesA s x with
    | some D, some es => match findA D k es 0 with
      | some (some (_, v)) => some (okTuple ok v true)
      | some none => match zeroT P eT with
        | some z => some (okTuple ok z false)
        | none => none
      | none => none
    | _, _ => none
  | _ => none
def aupdate (P : FP) (s : St) (t : TypeId) (m k v : Value) : Option St :=
  match P.underlying t, m with
  | some (.map kT _), .map (some r) => match plainKey P kT, s.get r with
    | some D, some (.obj (.map es clock)) => match findA D k es.toList 0 with
      | some (some (i, _)) => some (s.put r (.obj (.map (es.modify i fun e => { e with key := k, val := v }) clock)))
      | some none => match D, k with
        | .int _, .int _ _ | .string, .string _ | .bool, .bool _ => some (s.put r (.obj (.map (es.push { key := k, val := v, born := clock }) (clock + 1))))
        | _, _ => none
      | none => none
    | _, _ => none
  | _, _ => none
def failsA (P : FP) (asserted : TypeId) (ok : Bool) : Option Value :=
  match ok with
  | true => match zeroT P asserted with
    | some z => some (.tuple #[z, .bool false])
    | none => none
  | false => none
def atypeAssert (P : FP) (x : Value) (asserted : TypeId) (ok : Bool) : Option Value :=
  match P.underlying asserted, x with
  | some (.interface _), .nilIface => failsA P asserted ok
  | some (.interface want), .iface t v => match P.info? t with
    | some i => match Instr.missingMethod want i.methods with
      | none => some (okTuple ok (.iface t v) true)
      | some _ => failsA P asserted ok
    | none => none
  | some _, .nilIface => failsA P asserted ok
  | some _, .iface t v => bif Nat.beq t asserted then some (okTuple ok v true) else failsA P asserted ok
  | _, _ => none
def amethod (P : FP) (s : St) (t : TypeId) (v : Value) (name : String) : Option (FuncId × Value) :=
  match P.info? t with
  | some i => match i.methods.find? (·.name == name) with
    | some m => match m.path.toList, m.func with
      | [], some (f, ptr) =>
        match P.underlying t, ptr, v with
        | some (.pointer _), true, v => some (f, v)
        | some (.pointer elem), false, .pointer (some a) => (loadT P s elem a).map (f, ·)
        | some (.pointer _), _, _ => none
        | some _, true, _ => none
        | some _, false, v => some (f, v)
        | none, _, _ => none
      | _, _ => none
    | none => none
  | none => none
def acall (P : FP) (s : St) (e : Operand → Value) (c : Call) : Option ARes :=
  let args := c.args.toList.map (e)
  let method (recv : Value) (name : String) (args : List Value) : Option ARes :=
    match recv with
    | .iface t v => (amethod P s t v name).map fun (f, r) => .call f (r :: args) s
    | _ => none
  match c.callee with
  | .builtin b => (abuiltin P s b c.argTypes args).map fun (v, s) => .val v s
  | .invoke recv name => method (e recv) name args
  | .value f => match e f with
    | .func (.func g) first captured => some (.call g (first.toList ++ args ++ captured.toList) s)
    | .func (.yield l) first _ => some (.round l (first.toList ++ args) s)
    | .func (.method name) first _ => match first.toList ++ args with
      | recv :: rest => method recv name rest
      | [] => none
    | _ => none
def opAlloc (P : FP) (s : St) (elem : TypeId) : Option ARes :=
  match zeroT P elem with
  | some z => newVar P s elem z.cells.toList
  | none => none
def partsA (e : Operand → Value) (parts : Array (Nat × Operand)) : List (Nat × Value) := parts.toList.map fun (i, x) => (i, e x)
def sizedFields (P : FP) (fields : Array Field) : Bool := fields.toList.all fun f => (sizeT P f.type).isSome
def placeF (P : FP) (fields : Array Field) (i : Nat) : Option (Nat × Nat) :=
  match fields.toList[i]? with
  | some f => match sizeT P f.type with
    | some n => some (f.offset, n)
    | none => none
  | none => none
def opBuild (P : FP) (s : St) (e : Operand → Value) (t : TypeId) (parts : Array (Nat × Operand)) : Option ARes :=
  match zeroT P t, P.underlying t with
  | some z, some (.struct fields) =>
    bif sizedFields P fields then
    match fillA (placeF P fields) z.cells.toList (partsA e parts) with
    | some cs => some (.val (.agg ⟨cs⟩) s)
    | none => none
    else none
  | some z, some (.array _ elem) => match sizeT P elem with
    | some n => match fillA (placeE n) z.cells.toList (partsA e parts) with
      | some cs => some (.val (.agg ⟨cs⟩) s)
      | none => none
    | none => none
  | _, _ => none
def opBuildSlice (P : FP) (s : St) (e : Operand → Value) (t : TypeId) (len : Nat) (parts : Array (Nat × Operand)) : Option ARes :=
  match P.underlying t with
  | some (.slice elem) => match sizeT P elem, zeroT P elem with
    | some n, some z =>
      bif Nat.ble (len * n) 1048576 && Nat.beq z.cells.toList.length n then
      match fillA (placeE n) (rep z.cells.toList len) (partsA e parts) with
      | some cells => rvs (newSlice s elem cells false len len)
      | none => none
      else none
    | _, _ => none
  | _ => none
def opLoad (P : FP) (s : St) (t : TypeId) : Value → Option ARes
  | .pointer (some a) => rv s (loadT P s t a)
  | _ => none
def opStore (P : FP) (s : St) (t : TypeId) (x : Value) : Value → Option ARes
  | .pointer (some a) => ru (storeT P s t a x)
  | _ => none
def opToArray (P : FP) (s : St) (arr : TypeId) (x : Value) : Option ARes :=
  match P.underlying arr, x with
  | some (.array n _), .slice a len _ => bif Nat.ble n len && !(Nat.beq n 0) then some (.val (.pointer a) s) else none
  | _, _ => none
def opIface (P : FP) (s : St) (t : TypeId) (x : Value) : Option ARes :=
  match P.underlying t with
  | some (.interface _) => none
  | some _ => some (.val (.iface t x) s)
  | none => none
def opMakeSlice (P : FP) (s : St) (t : TypeId) (l c : Value) : Option ARes :=
  match P.underlying t, l, c with
  | some (.slice elem), .int _ (.ofNat l), .int _ (.ofNat c) => match zeroT P elem, P.info? elem with
    | some z, some i =>
      bif Nat.ble l c && Nat.ble (c * (i.bytes + 1)) 1099511627776 && Nat.beq z.cells.toList.length i.size then rvs (newSlice s elem (rep z.cells.toList c) false l c) else none
    | _, _ => none
  | _, _, _ => none
def opFieldAddr (P : FP) (s : St) (t : TypeId) (f : Nat) (x : Value) : Option ARes :=
  match P.underlying t, x with
  | some (.struct fields), .pointer (some a) => match fields[f]? with
    | some fd => match sizeT P fd.type with
      | some (_ + 1) => some (.val (.pointer (some (a.add fd.offset))) s)
      | _ => none
    | none => none
  | _, _ => none
def opField (P : FP) (s : St) (t : TypeId) (f : Nat) (x : Value) : Option ARes :=
  match P.underlying t, x with
  | some (.struct fields), .agg cs => match fields[f]? with
    | some fd => rv s (partT P fd.type cs fd.offset)
    | none => none
  | _, _ => none
def opRange (P : FP) (s : St) (t : TypeId) (x : Value) : Option ARes :=
  match P.underlying t, x with
  | some .string, .string b => match newObjA s (.stringIter b 0) with
    | some (id, s) => some (.val (.pointer (some ⟨id, 0, none⟩)) s)
    | none => none
  | _, _ => none
def opMakeMapT (P : FP) (s : St) (e : Operand → Value) (t : TypeId) (r : Option Operand) : Option ARes :=
  match r with
  | none => opMakeMap s none
  | some x => match P.underlying t with
    | some (.map _ _) => opMakeMap s (some (e x))
    | _ => none
def opDecl (P : FP) (s : St) (e : Operand → Value) (op : Op) : Option ARes :=
  match op with
  | .pick c a b => opPick s (e c) (e a) (e b)
  | .alloc elem => opAlloc P s elem
  | .box elem x => newVar P s elem (e x).cells.toList
  | .build t parts => opBuild P s e t parts
  | .buildSlice t len parts => opBuildSlice P s e t len parts
  | .nilCheck x => opNilCheck s (e x)
  | .unOp op _ x => rv s (aun op (e x))
  | .convert src dst x => rvs (aconvert P s src dst (e x))
  | .sliceToArrayPointer arr x => opToArray P s arr (e x)
  | .makeInterface t x => opIface P s t (e x)
  | .makeFunc fn first captured => opMakeFunc s fn (first.toList.map (e)) (captured.toList.map (e))
  | .makeMap t r => opMakeMapT P s e t r
  | .makeSlice t l c => opMakeSlice P s t (e l) (e c)
  | .slice t x lo hi mx => rv s (aslice P s t (e x) (lo.map (e)) (hi.map (e)) (mx.map (e)))
  | .lookup t x ix ok => rv s (alookup P s t (e x) (e ix) ok)
  | .mapUpdate t m k x | .insert t m k x => ru (aupdate P s t (e m) (e k) (e x))
  | .range t x => opRange P s t (e x)
  | .next it isString => rvs (anext s (e it) isString)
  | .typeAssert x _ asserted ok => rv s (atypeAssert P (e x) asserted ok)
  | _ => none
def aop (P : FP) (s : St) (e : Operand → Value) (o : Oper) : Option ARes :=
  match o.op with
  | .move x | .assign x => some (.val (e x) s)
  | .load t a => opLoad P s t (e a)
  | .store t a x => opStore P s t (e x) (e a)
  | .binOp op t x y _ => rv s (abin P op t x y (e x) (e y))
  | .fieldAddr t x f => opFieldAddr P s t f (e x)
  | .field t x f => opField P s t f (e x)
  | .indexAddr t x ix => rv s (aindexAddr P t (e x) (e ix))
  | .index t x ix => rv s (aindex P t (e x) (e ix))
  | .extract t ix => opExtract s ix (e t)
  | .call c => acall P s e c
  | op => opDecl P s e op
/-! ### The machine -/
structure OutF where
  x : Ex
  tm : Env
  s : St

abbrev CodeFF := Code → Env → St → Option OutF

def resultF (P : FP) (s : St) (E : Env) : ResultVar → Option Value
  | .tmp t => some (E.get t)
  | .cell a t => match E.get a with
    | .pointer (some a) => loadT P s t a
    | _ => none

def resListF (P : FP) (s : St) (E : Env) : List ResultVar → Option (List Value)
  | [] => some []
  | r :: rs => match resultF P s E r with
    | some v => match resListF P s E rs with
      | some vs => some (v :: vs)
      | none => none
    | none => none

def resultsF (P : FP) (s : St) (fn : Func) (E : Env) : Option (Value × St) :=
  match resListF P s E fn.results.toList with
  | some vs => some (oneOrTuple vs, s)
  | none => none

def leaveF (P : FP) (fn : Func) : Option OutF → Option (Value × St)
  | some ⟨.normal, tm, s⟩ => resultsF P s fn tm
  | some ⟨.ret, tm, s⟩ => resultsF P s fn tm
  | _ => none

def callF (P : FP) (H : Hooks) (rc : CodeFF) (f : FuncId) (args : List Value) (s : St) : Option (Value × St) :=
  match P.fun? f with
  | some fn =>
    match H f with
    | some h => h args s
    | none =>
    match fn.body with
    | some c => bif Nat.ble fn.ntmps 1000000 && Nat.ble args.length fn.ntmps then leaveF P fn (rc c (Env.ofArgs args fn.ntmps) s) else none
    | none => none
  | none => none

def bodyF (rc : CodeFF) (l : Nat) (body : Code) : Option OutF → Option OutF
  | some ⟨.normal, tm, s⟩ => match s.get l with
    | some (.obj (.loop r)) => match r.state with
      | .ready => rc body tm (s.put l (.obj (.loop { r with state := .busy })))
      | _ => none
    | _ => none
  | _ => none
def endRoundF (l : Nat) : Option OutF → Option (Value × St)
  | some ⟨x, _, s⟩ => match s.get l with
    | some (.obj (.loop r)) => some (.bool x.jump.isNone, s.put l (.obj (.loop { r with state := (if x.jump.isNone then .ready else .done), pending := x.jump })))
    | _ => none
  | none => none
def roundF (rc : CodeFF) (l : Nat) (args : List Value) (s : St) : Option (Value × St) :=
  match s.get l with
  | some (.obj (.loop r)) =>
    bif (Nat.beq args.length r.params.toList.length && noRange r.assign && noRange r.body) && Nat.ble r.tmps.toList.length 1000000 then
      endRoundF l (bodyF rc l r.body (rc r.assign (Env.ofArgs (roundTmps (r.params.toList.zip args) r.tmps.toList) r.tmps.toList.length) s))
    else none
  | _ => none

def wantedF (ops : Array Oper) (E : Env) (o : Oper) : Option Bool :=
  match o.guard with
  | none => some true
  | some (j, want) => match ops[j]? with
    | some oj => match oj.dst with
      | some d => match E.get d with
        | .bool b => some (match b, want with | true, true => true | false, false => true | _, _ => false)
        | .chan none => some false
        | _ => none
      | none => none
    | none => none

def execF (P : FP) (H : Hooks) (rc : CodeFF) : Option ARes → Option (Value × St)
  | some (.val v s) => some (v, s)
  | some (.call f args s) => callF P H rc f args s
  | some (.round l args s) => roundF rc l args s
  | none => none

def thenF (dst : Option Tmp) (E : Env) (k : Env → St → Option (Env × St)) : Option (Value × St) → Option (Env × St)
  | some (v, s) => k (putF E dst v) s
  | none => none

def runOpsF (P : FP) (H : Hooks) (rc : CodeFF) (ops : Array Oper) : List Oper → Env → St → Option (Env × St)
  | [], E, s => some (E, s)
  | o :: rest, E, s =>
    match wantedF ops E o with
    | some true => thenF o.dst E (runOpsF P H rc ops rest) (execF P H rc (aop P s (evF E) o))
    | some false => runOpsF P H rc ops rest (putF E o.dst skipV) s
    | none => none

def opClsF (e : Operand → Value) : Op → Cls
  | .move _ | .assign _ | .pick .. | .build .. | .nilCheck _ | .binOp .. | .unOp .. | .sliceToArrayPointer .. | .makeInterface .. | .makeFunc .. | .fieldAddr .. | .field .. | .indexAddr .. | .index .. | .typeAssert .. | .extract .. => .reg
  | .load _ a => addrCls true (e a)
  | .slice _ x _ _ _ => sliceCls (e x)
  | .store _ a _ => addrCls false (e a)
  | .call ⟨.builtin .len, args, _⟩ => match args.toList.map e with
    | [.map _] => .any
    | _ => .reg
  | .call ⟨.builtin .min, _, _⟩ | .call ⟨.builtin .max, _, _⟩ => .reg
  | _ => .any

def runDrawF (P : FP) (H : Hooks) (rc : CodeFF) (ops : Array Oper) : Nat → List Oper → List Nat → List (Nat × Did) → Env → St → Option (Env × St)
  | _, [], _, _, E, s => some (E, s)
  | i, o :: rest, m :: ms, done, E, s =>
    match wantedF ops E o with
    | some true =>
      match execF P H rc (aop P { heap := s.heap, next := s.next, lo := s.next } (evF E) o) with
      | some (v, s') =>
        bif apartAll m (didOf s s' (opClsF (evF E) o.op)) done then runDrawF P H rc ops (i + 1) rest ms ((i, didOf s s' (opClsF (evF E) o.op)) :: done) (putF E o.dst v) (afterOp s s' (didOf s s' (opClsF (evF E) o.op))) else none
      | none => none
    | some false => runDrawF P H rc ops (i + 1) rest ms done (putF E o.dst skipV) s
    | none => none
  | _, _ :: _, [], _, _, _ => none

def drawF (P : FP) (H : Hooks) (rc : CodeFF) (ops : Array Oper) (E : Env) (s : St) : Option (Env × St) :=
  bif Mir.distinct (ops.toList.map (·.dst)) && drawOk ops (ops.toList.map (·.dst)) (befA [] ops.toList) 0 ops.toList (befA [] ops.toList) then
    runDrawF P H rc ops 0 ops.toList (befA [] ops.toList) [] E s
  else none

def jumpOutF (E : Env) (s : St) : Option Code → Option OutF
  | none => some ⟨.normal, E, s⟩
  | some .ret => some ⟨.ret, E, s⟩
  | some (.exit id) => some ⟨.exit id, E, s⟩
  | some (.goto l) => some ⟨.goto l, E, s⟩
  | _ => none

def seqF (rc : CodeFF) (b : Code) : Option OutF → Option OutF
  | some ⟨.normal, tm, s⟩ => rc b tm s
  | r => r
def condF (rc : CodeFF) (a b : Code) (tm : Env) (s : St) : Value → Option OutF
  | .bool true => rc a tm s
  | .bool false => rc b tm s
  | _ => none
def blockF (id : Nat) : Option OutF → Option OutF
  | some ⟨.exit id', tm, s⟩ => bif id'.beq id then some ⟨.normal, tm, s⟩ else some ⟨.exit id', tm, s⟩
  | r => r
def scopeF : Option OutF → Option OutF
  | some ⟨.goto _, _, _⟩ => none
  | r => r
def regionF : Option (Env × St) → Option OutF
  | some (tm, s) => some ⟨.normal, tm, s⟩
  | none => none
def endRangeF (E : Env) (l : Nat) : Option (Value × St) → Option OutF
  | some (_, s) => match s.get l with
    | some (.obj (.loop r)) => match r.state with
      | .busy => none
      | _ => jumpOutF E (s.put l (.obj (.loop { r with state := .exhausted }))) r.pending
    | _ => none
  | none => none
def rangeF (P : FP) (H : Hooks) (rc : CodeFF) (f : Value) (params : Array Tmp) (assign body : Code) (E : Env) (s : St) : Option OutF :=
  bif Nat.ble (E.list 1000001 0).length 1000000 then
  match newObjA s (.loop { state := .ready, pending := none, fn := 0, tmps := ⟨E.list 1000001 0⟩, params, assign, body, defers := 0 }) with
  | some (l, s) => match f with
    | .func (.func g) first captured => match H g with
      | none => endRangeF E l (callF P H rc g (first.toList ++ [.func (.yield l) #[] #[]] ++ captured.toList) s)
      | some _ => none
    | _ => none
  | none => none
  else none
def stepCodeF (P : FP) (H : Hooks) (rc : CodeFF) (c : Code) (E : Env) (s : St) : Option OutF :=
  match c with
  | .skip | .label _ => some ⟨.normal, E, s⟩
  | .region _ ops false => regionF (runOpsF P H rc ops ops.toList E s)
  | .region _ ops true => regionF (drawF P H rc ops E s)
  | .seq a b => seqF rc b (rc a E s)
  | .cond c a b => condF rc a b E s (evF E c)
  | .block id body => blockF id (rc body E s)
  | .loop body => seqF rc (.loop body) (rc body E s)
  | .scope body => scopeF (rc body E s)
  | .exit id => some ⟨.exit id, E, s⟩
  | .goto l => some ⟨.goto l, E, s⟩
  | .ret => some ⟨.ret, E, s⟩
  | .rangeFunc f params assign body => rangeF P H rc (evF E f) params assign body E s
  | .refuse _ => none

def runCodeF (P : FP) (H : Hooks) : Nat → CodeFF
  | 0, _, _, _ => none
  | n + 1, c, E, s => stepCodeF P H (runCodeF P H n) c E s

def runFnF (P : FP) (H : Hooks) (n : Nat) (f : FuncId) (args : List Value) (s : St) : Option (Value × St) := callF P H (runCodeF P H n) f args s

end
end Go.Mif

namespace Go.Mif
open Go Go.Mir

section
variable (P : Program)
theorem info_of : (FP.of P).info? = P.info? := rfl
theorem underlying_of : (FP.of P).underlying = P.underlying := rfl
theorem fun_of (f : FuncId) : (FP.of P).fun? f = P.funcs[f]? := rfl
theorem stood_of : (FP.of P).stoodInHeld = P.stoodInHeld := rfl
theorem guard_of : (FP.of P).eqGuardType = P.eqGuardType := rfl
theorem depth_of : (FP.of P).depth = P.depth := rfl

theorem sizeT_of : Mif.sizeT (FP.of P) = Mir.sizeT P := by
  first | rfl | (delta Mif.sizeT Mir.sizeT; first | rfl | (simp only [info_of]; first | done | rfl))
theorem zeroT_of : Mif.zeroT (FP.of P) = Mir.zeroT P := by
  first | rfl | (delta Mif.zeroT Mir.zeroT; first | rfl | (simp only [info_of]; first | done | rfl))
theorem newVar_of : Mif.newVar (FP.of P) = Mir.newVar P := by
  first | rfl | (delta Mif.newVar Mir.newVar; first | rfl | (simp only [sizeT_of]; first | done | rfl))
theorem aggT_of : Mif.aggT (FP.of P) = Mir.aggT P := by
  first | rfl | (delta Mif.aggT Mir.aggT; first | rfl | (simp only [underlying_of]; first | done | rfl))
theorem loadT_of : Mif.loadT (FP.of P) = Mir.loadT P := by
  first | rfl | (delta Mif.loadT Mir.loadT; first | rfl | (simp only [aggT_of, sizeT_of]; first | done | rfl))
theorem storeT_of : Mif.storeT (FP.of P) = Mir.storeT P := by
  first | rfl | (delta Mif.storeT Mir.storeT; first | rfl | (simp only [sizeT_of]; first | done | rfl))
theorem partT_of : Mif.partT (FP.of P) = Mir.partT P := by
  first | rfl | (delta Mif.partT Mir.partT; first | rfl | (simp only [aggT_of, sizeT_of]; first | done | rfl))
theorem aeqFields_of (rec : TypeId → Value → Value → Option Bool) (xs ys : Array Value) : ∀ l, Mif.aeqFields (FP.of P) rec xs ys l = Mir.aeqFields P rec xs ys l
  | [] => rfl
  | f :: fs => by
    unfold Mif.aeqFields Mir.aeqFields
    simp only [partT_of, aeqFields_of rec xs ys fs]
    first | done | rfl
theorem aeqElems_of (rec : TypeId → Value → Value → Option Bool) (elem : TypeId) (n : Nat) (xs ys : Array Value) : ∀ l, Mif.aeqElems (FP.of P) rec elem n xs ys l = Mir.aeqElems P rec elem n xs ys l
  | [] => rfl
  | f :: fs => by
    unfold Mif.aeqElems Mir.aeqElems
    simp only [partT_of, aeqElems_of rec elem n xs ys fs]
    first | done | rfl
theorem aeqIface_of : Mif.aeqIface (FP.of P) = Mir.aeqIface P := by
  first | rfl | (delta Mif.aeqIface Mir.aeqIface; first | rfl | (simp only [info_of]; first | done | rfl))
theorem aeq_of : ∀ d, Mif.aeq (FP.of P) d = Mir.aeq P d
  | 0 => rfl
  | d + 1 => by
    funext t x y
    unfold Mif.aeq Mir.aeq
    simp only [underlying_of, stood_of, sizeT_of, aeqIface_of, aeqFields_of, aeqElems_of, aeq_of d]
    first | done | rfl
theorem eqGuardA_of : Mif.eqGuardA (FP.of P) = Mir.eqGuardA P := by
  first | rfl | (delta Mif.eqGuardA Mir.eqGuardA; first | rfl | (simp only [depth_of, guard_of]; first | done | rfl))
theorem abinOther_of : Mif.abinOther (FP.of P) = Mir.abinOther P := by
  first | rfl | (delta Mif.abinOther Mir.abinOther; first | rfl | (simp only [aeq_of, eqGuardA_of]; first | done | rfl))
theorem abin_of : Mif.abin (FP.of P) = Mir.abin P := by
  first | rfl | (delta Mif.abin Mir.abin; first | rfl | (simp only [abinOther_of]; first | done | rfl))
theorem toBytesA_of : Mif.toBytesA (FP.of P) = Mir.toBytesA P := by
  first | rfl | (delta Mif.toBytesA Mir.toBytesA; first | rfl | (simp only [sizeT_of, underlying_of]; first | done | rfl))
theorem sameBytesA_of : Mif.sameBytesA (FP.of P) = Mir.sameBytesA P := by
  first | rfl | (delta Mif.sameBytesA Mir.sameBytesA; first | rfl | (simp only [underlying_of]; first | done | rfl))
theorem toStringA_of : Mif.toStringA (FP.of P) = Mir.toStringA P := by
  first | rfl | (delta Mif.toStringA Mir.toStringA; first | rfl | (simp only [underlying_of]; first | done | rfl))
theorem aconvert_of : Mif.aconvert (FP.of P) = Mir.aconvert P := by
  first | rfl | (delta Mif.aconvert Mir.aconvert; first | rfl | (simp only [sameBytesA_of, toBytesA_of, toStringA_of, underlying_of]; first | done | rfl))
theorem mayCut_of : Mif.mayCut (FP.of P) = Mir.mayCut P := by
  first | rfl | (delta Mif.mayCut Mir.mayCut; first | rfl | (simp only [sizeT_of]; first | done | rfl))
theorem asliceSlice_of : Mif.asliceSlice (FP.of P) = Mir.asliceSlice P := by
  first | rfl | (delta Mif.asliceSlice Mir.asliceSlice; first | rfl | (simp only [mayCut_of, sizeT_of]; first | done | rfl))
theorem asliceArr_of : Mif.asliceArr (FP.of P) = Mir.asliceArr P := by
  first | rfl | (delta Mif.asliceArr Mir.asliceArr; first | rfl | (simp only [sizeT_of]; first | done | rfl))
theorem aslice_of : Mif.aslice (FP.of P) = Mir.aslice P := by
  first | rfl | (delta Mif.aslice Mir.aslice; first | rfl | (simp only [asliceArr_of, asliceSlice_of, underlying_of]; first | done | rfl))
theorem aindexAddr_of : Mif.aindexAddr (FP.of P) = Mir.aindexAddr P := by
  first | rfl | (delta Mif.aindexAddr Mir.aindexAddr; first | rfl | (simp only [sizeT_of, underlying_of]; first | done | rfl))
theorem aindex_of : Mif.aindex (FP.of P) = Mir.aindex P := by
  first | rfl | (delta Mif.aindex Mir.aindex; first | rfl | (simp only [partT_of, sizeT_of, underlying_of]; first | done | rfl))
theorem zerosA_of : Mif.zerosA (FP.of P) = Mir.zerosA P := by
  first | rfl | (delta Mif.zerosA Mir.zerosA; first | rfl | (simp only [underlying_of]; first | done | rfl))
theorem addedA_of : Mif.addedA (FP.of P) = Mir.addedA P := by
  first | rfl | (delta Mif.addedA Mir.addedA; first | rfl | (simp only [zerosA_of]; first | done | rfl))
theorem aappend_of : Mif.aappend (FP.of P) = Mir.aappend P := by
  first | rfl | (delta Mif.aappend Mir.aappend; first | rfl | (simp only [addedA_of, info_of, underlying_of, zeroT_of]; first | done | rfl))
theorem acopy_of : Mif.acopy (FP.of P) = Mir.acopy P := by
  first | rfl | (delta Mif.acopy Mir.acopy; first | rfl | (simp only [sizeT_of, underlying_of]; first | done | rfl))
theorem lenOfA_of : Mif.lenOfA (FP.of P) = Mir.lenOfA P := by
  first | rfl | (delta Mif.lenOfA Mir.lenOfA; first | rfl | (simp only [underlying_of]; first | done | rfl))
theorem capOfA_of : Mif.capOfA (FP.of P) = Mir.capOfA P := by
  first | rfl | (delta Mif.capOfA Mir.capOfA; first | rfl | (simp only [underlying_of]; first | done | rfl))
theorem abuiltin_of : Mif.abuiltin (FP.of P) = Mir.abuiltin P := by
  first | rfl | (delta Mif.abuiltin Mir.abuiltin; first | rfl | (simp only [aappend_of, acopy_of, capOfA_of, lenOfA_of]; first | done | rfl))
theorem plainKey_of : Mif.plainKey (FP.of P) = Mir.plainKey P := by
  first | rfl | (delta Mif.plainKey Mir.plainKey; first | rfl | (simp only [underlying_of]; first | done | rfl))
theorem alookup_of : Mif.alookup (FP.of P) = Mir.alookup P := by
  first | rfl | (delta Mif.alookup Mir.alookup; first | rfl | (simp only [plainKey_of, underlying_of, zeroT_of]; first | done | rfl))
theorem aupdate_of : Mif.aupdate (FP.of P) = Mir.aupdate P := by
  first | rfl | (delta Mif.aupdate Mir.aupdate; first | rfl | (simp only [plainKey_of, underlying_of]; first | done | rfl))
theorem failsA_of : Mif.failsA (FP.of P) = Mir.failsA P := by
  first | rfl | (delta Mif.failsA Mir.failsA; first | rfl | (simp only [zeroT_of]; first | done | rfl))
theorem atypeAssert_of : Mif.atypeAssert (FP.of P) = Mir.atypeAssert P := by
  first | rfl | (delta Mif.atypeAssert Mir.atypeAssert; first | rfl | (simp only [failsA_of, info_of, underlying_of]; first | done | rfl))
theorem amethod_of : Mif.amethod (FP.of P) = Mir.amethod P := by
  first | rfl | (delta Mif.amethod Mir.amethod; first | rfl | (simp only [info_of, loadT_of, underlying_of]; first | done | rfl))
theorem acall_of (s : St) (tm : List Value) : Mif.acall (FP.of P) s (Mir.ev tm) = Mir.acall P s tm := by
  funext a
  unfold Mif.acall Mir.acall
  first | rfl | (simp only [abuiltin_of, amethod_of, underlying_of]; first | done | rfl)
theorem opAlloc_of : Mif.opAlloc (FP.of P) = Mir.opAlloc P := by
  first | rfl | (delta Mif.opAlloc Mir.opAlloc; first | rfl | (simp only [newVar_of, zeroT_of]; first | done | rfl))
theorem partsA_of (tm : List Value) : Mif.partsA (Mir.ev tm) = Mir.partsA tm := rfl
theorem sizedFields_of : Mif.sizedFields (FP.of P) = Mir.sizedFields P := by
  first | rfl | (delta Mif.sizedFields Mir.sizedFields; first | rfl | (simp only [sizeT_of]; first | done | rfl))
theorem placeF_of : Mif.placeF (FP.of P) = Mir.placeF P := by
  first | rfl | (delta Mif.placeF Mir.placeF; first | rfl | (simp only [sizeT_of]; first | done | rfl))
theorem opBuild_of (s : St) (tm : List Value) : Mif.opBuild (FP.of P) s (Mir.ev tm) = Mir.opBuild P s tm := by
  funext a b
  unfold Mif.opBuild Mir.opBuild
  first | rfl | (simp only [partsA_of, placeF_of, sizeT_of, sizedFields_of, underlying_of, zeroT_of, underlying_of]; first | done | rfl)
theorem opBuildSlice_of (s : St) (tm : List Value) : Mif.opBuildSlice (FP.of P) s (Mir.ev tm) = Mir.opBuildSlice P s tm := by
  funext a b c
  unfold Mif.opBuildSlice Mir.opBuildSlice
  first | rfl | (simp only [partsA_of, sizeT_of, underlying_of, zeroT_of, underlying_of]; first | done | rfl)
theorem opLoad_of : Mif.opLoad (FP.of P) = Mir.opLoad P := by
  first | rfl | (delta Mif.opLoad Mir.opLoad; first | rfl | (simp only [loadT_of]; first | done | rfl))
theorem opStore_of : Mif.opStore (FP.of P) = Mir.opStore P := by
  first | rfl | (delta Mif.opStore Mir.opStore; first | rfl | (simp only [storeT_of]; first | done | rfl))
theorem opToArray_of : Mif.opToArray (FP.of P) = Mir.opToArray P := by
  first | rfl | (delta Mif.opToArray Mir.opToArray; first | rfl | (simp only [underlying_of]; first | done | rfl))
theorem opIface_of : Mif.opIface (FP.of P) = Mir.opIface P := by
  first | rfl | (delta Mif.opIface Mir.opIface; first | rfl | (simp only [underlying_of]; first | done | rfl))
theorem opMakeSlice_of : Mif.opMakeSlice (FP.of P) = Mir.opMakeSlice P := by
  first | rfl | (delta Mif.opMakeSlice Mir.opMakeSlice; first | rfl | (simp only [info_of, underlying_of, zeroT_of]; first | done | rfl))
theorem opFieldAddr_of : Mif.opFieldAddr (FP.of P) = Mir.opFieldAddr P := by
  first | rfl | (delta Mif.opFieldAddr Mir.opFieldAddr; first | rfl | (simp only [sizeT_of, underlying_of]; first | done | rfl))
theorem opField_of : Mif.opField (FP.of P) = Mir.opField P := by
  first | rfl | (delta Mif.opField Mir.opField; first | rfl | (simp only [partT_of, underlying_of]; first | done | rfl))
theorem opRange_of : Mif.opRange (FP.of P) = Mir.opRange P := by
  first | rfl | (delta Mif.opRange Mir.opRange; first | rfl | (simp only [underlying_of]; first | done | rfl))
theorem opMakeMapT_of (s : St) (tm : List Value) : Mif.opMakeMapT (FP.of P) s (Mir.ev tm) = Mir.opMakeMapT P s tm := by
  funext a b
  unfold Mif.opMakeMapT Mir.opMakeMapT
  first | rfl | (simp only [underlying_of, underlying_of]; first | done | rfl)
theorem opDecl_of (s : St) (tm : List Value) : Mif.opDecl (FP.of P) s (Mir.ev tm) = Mir.opDecl P s tm := by
  funext a
  unfold Mif.opDecl Mir.opDecl
  first | rfl | (simp only [aconvert_of, alookup_of, aslice_of, atypeAssert_of, aupdate_of, newVar_of, opAlloc_of, opBuildSlice_of, opBuild_of, opIface_of, opMakeMapT_of, opMakeSlice_of, opRange_of, opToArray_of, underlying_of]; first | done | rfl)
theorem aop_of (s : St) (tm : List Value) : Mif.aop (FP.of P) s (Mir.ev tm) = Mir.aop P s tm := by
  funext a
  unfold Mif.aop Mir.aop
  first | rfl | (simp only [abin_of, acall_of, aindexAddr_of, aindex_of, opDecl_of, opFieldAddr_of, opField_of, opLoad_of, opStore_of, underlying_of]; first | done | rfl)
end
end Go.Mif

namespace Go.Mif
open Go Go.Mir

/-! ### Temporaries -/
/-- The tree holds just the list. -/
def Fits (E : Env) (tm : List Value) : Prop := ∀ i, T.get E i = tm[i]?

theorem env_set_leaf (n : Nat) (a : Value) : Env.set T.leaf n a = .leaf := rfl
theorem env_set_node (l r : T Value) (v : Option Value) (n : Nat) (a : Value) : Env.set (T.node l v r) n a =
    bif n.beq 0 then .node l (some a) r else bif (n % 2).beq 1 then .node (Env.set l (n / 2) a) v r else .node l v (Env.set r (n / 2 - 1) a) := by
  unfold Env.set
  simp only [bool_rec]
  rfl

theorem beq_false {a b : Nat} (h : a ≠ b) : Nat.beq a b = false := by rw [Bool.eq_false_iff]; intro e; exact h (Nat.eq_of_beq_eq_true e)
theorem beq_true {a b : Nat} (h : a = b) : Nat.beq a b = true := by subst h; exact Nat.beq_refl a

theorem get_root (l r : T Value) (v : Option Value) : T.get (.node l v r) 0 = v := by rw [T.get_node]; rfl
theorem get_odd (l r : T Value) (v : Option Value) {n : Nat} (h : n % 2 = 1) : T.get (.node l v r) n = T.get l (n / 2) := by
  rw [T.get_node, beq_false (by omega), beq_true h]; rfl
theorem get_even (l r : T Value) (v : Option Value) {n : Nat} (h0 : n ≠ 0) (h : n % 2 ≠ 1) : T.get (.node l v r) n = T.get r (n / 2 - 1) := by
  rw [T.get_node, beq_false h0, beq_false h]; rfl
theorem set_root (l r : T Value) (v : Option Value) (a : Value) : Env.set (.node l v r) 0 a = .node l (some a) r := by rw [env_set_node]; rfl
theorem set_odd (l r : T Value) (v : Option Value) (a : Value) {n : Nat} (h : n % 2 = 1) : Env.set (.node l v r) n a = .node (Env.set l (n / 2) a) v r := by
  rw [env_set_node, beq_false (by omega), beq_true h]; rfl
theorem set_even (l r : T Value) (v : Option Value) (a : Value) {n : Nat} (h0 : n ≠ 0) (h : n % 2 ≠ 1) : Env.set (.node l v r) n a = .node l v (Env.set r (n / 2 - 1) a) := by
  rw [env_set_node, beq_false h0, beq_false h]; rfl

/-- Every node has a value. -/
inductive Full : T Value → Prop
  | leaf : Full .leaf
  | node (l r : T Value) (v : Value) (hl : Full l) (hr : Full r) : Full (.node l (some v) r)

theorem Full.set {E : T Value} (h : Full E) (a : Value) : ∀ n, Full (Env.set E n a) := by
  induction h with
  | leaf => intro n; exact .leaf
  | node l r v hl hr ihl ihr =>
    intro n
    by_cases h0 : n = 0
    · subst h0; rw [set_root]; exact .node l r a hl hr
    · by_cases h1 : n % 2 = 1
      · rw [set_odd _ _ _ _ h1]; exact .node _ _ _ (ihl _) hr
      · rw [set_even _ _ _ _ h0 h1]; exact .node _ _ _ hl (ihr _)

theorem get_set {E : T Value} (h : Full E) (a : Value) : ∀ n m, T.get (Env.set E n a) m = if m = n ∧ (T.get E m).isSome then some a else T.get E m := by
  induction h with
  | leaf => intro n m; rw [env_set_leaf, T.get_leaf]; simp
  | node l r v hl hr ihl ihr =>
    intro n m
    by_cases h0 : n = 0
    · subst h0
      rw [set_root]
      by_cases m0 : m = 0
      · subst m0; rw [get_root, get_root]; simp
      · rw [if_neg (by simp [m0])]
        by_cases m1 : m % 2 = 1
        · rw [get_odd _ _ _ m1, get_odd _ _ _ m1]
        · rw [get_even _ _ _ m0 m1, get_even _ _ _ m0 m1]
    · by_cases h1 : n % 2 = 1
      · rw [set_odd _ _ _ _ h1]
        by_cases m0 : m = 0
        · subst m0; rw [get_root, get_root, if_neg (by omega)]
        · by_cases m1 : m % 2 = 1
          · rw [get_odd _ _ _ m1, get_odd _ _ _ m1, ihl]
            by_cases e : m = n
            · subst e; simp
            · rw [if_neg (by omega), if_neg (by simp [e])]
          · rw [get_even _ _ _ m0 m1, get_even _ _ _ m0 m1, if_neg (by omega)]
      · rw [set_even _ _ _ _ h0 h1]
        by_cases m0 : m = 0
        · subst m0; rw [get_root, get_root, if_neg (by omega)]
        · by_cases m1 : m % 2 = 1
          · rw [get_odd _ _ _ m1, get_odd _ _ _ m1, if_neg (by omega)]
          · rw [get_even _ _ _ m0 m1, get_even _ _ _ m0 m1, ihr]
            by_cases e : m = n
            · subst e; simp
            · rw [if_neg (by omega), if_neg (by simp [e])]

structure Fit (E : Env) (tm : List Value) : Prop where
  full : Full E
  fits : Fits E tm

theorem Fit.set {E : Env} {tm : List Value} (h : Fit E tm) (d : Nat) (v : Value) : Fit (E.set d v) (tm.set d v) := by
  refine ⟨h.full.set v d, fun i => ?_⟩
  rw [get_set h.full, h.fits i, List.getElem?_set]
  by_cases e : d = i
  · subst e
    by_cases hl : d < tm.length
    · simp [hl]
    · simp [hl]
  · rw [if_neg e, if_neg (by rintro ⟨rfl, _⟩; exact e rfl)]

theorem Fit.get {E : Env} {tm : List Value} (h : Fit E tm) (i : Nat) : E.get i = tm.getD i undef := by
  unfold Env.get
  rw [h.fits i, List.getD_eq_getElem?_getD]
  cases tm[i]? <;> rfl

theorem Fit.put {E : Env} {tm : List Value} (h : Fit E tm) (d : Option Tmp) (v : Value) : Fit (putF E d v) (Mir.put tm d v) := by
  cases d with
  | none => exact h
  | some d => exact h.set d v

theorem Fit.ev {E : Env} {tm : List Value} (h : Fit E tm) : evF E = Mir.ev tm := by
  funext o
  cases o with
  | tmp t => exact h.get t
  | const v => rfl
  | global g => rfl
  | func f => rfl

theorem room_succ (f n : Nat) : Env.room (f + 1) n = bif n.beq 0 then .leaf else .node (Env.room f (n / 2)) (some undef) (Env.room f ((n - 1) / 2)) := by
  unfold Env.room
  simp only [bool_rec]
  rfl

theorem room_full : ∀ (f n : Nat), Full (Env.room f n)
  | 0, n => .leaf
  | f + 1, n => by
    rw [room_succ]
    cases n.beq 0
    · exact .node _ _ _ (room_full f _) (room_full f _)
    · exact .leaf

theorem room_get : ∀ (f n : Nat), n < 2 ^ f → ∀ i, T.get (Env.room f n) i = if i < n then some undef else none
  | 0, n, h, i => by simp at h; subst h; rfl
  | f + 1, n, h, i => by
    have hp : 2 ^ (f + 1) = 2 * 2 ^ f := by rw [Nat.pow_succ]; omega
    rw [room_succ]
    by_cases h0 : n = 0
    · subst h0; simp only [show Nat.beq 0 0 = true from rfl, cond_true, T.get_leaf]; simp
    · rw [beq_false h0]; simp only [cond_false]
      by_cases i0 : i = 0
      · subst i0; rw [get_root, if_pos (by omega)]
      · by_cases i1 : i % 2 = 1
        · rw [get_odd _ _ _ i1, room_get f _ (by omega)]
          by_cases hl : i < n
          · rw [if_pos hl, if_pos (by omega)]
          · rw [if_neg hl, if_neg (by omega)]
        · rw [get_even _ _ _ i0 i1, room_get f _ (by omega)]
          by_cases hl : i < n
          · rw [if_pos hl, if_pos (by omega)]
          · rw [if_neg hl, if_neg (by omega)]

theorem fit_room {n : Nat} (h : n ≤ 1000000) : Fit (Env.room 40 n) (List.replicate n undef) := by
  refine ⟨room_full 40 n, fun i => ?_⟩
  rw [room_get 40 n (by omega), List.getElem?_replicate]

theorem fit_fill : ∀ (l : List Value) (i : Nat) (E : Env) (pre : List Value) (k : Nat), pre.length = i → l.length ≤ k → Fit E (pre ++ List.replicate k undef) →
    Fit (Env.fill l i E) (pre ++ l ++ List.replicate (k - l.length) undef)
  | [], i, E, pre, k, _, _, h => by simpa [Env.fill] using h
  | v :: l, i, E, pre, k, hi, hk, h => by
    obtain ⟨k, rfl⟩ : ∃ m, k = m + 1 := ⟨k - 1, by simp at hk; omega⟩
    have h1 := h.set i v
    have e : (pre ++ List.replicate (k + 1) undef).set i v = (pre ++ [v]) ++ List.replicate k undef := by
      rw [List.set_append_right _ _ (by omega), hi, Nat.sub_self, List.replicate_succ]; simp
    rw [e] at h1
    have := fit_fill l (i + 1) (E.set i v) (pre ++ [v]) k (by simp [hi]) (by simp at hk; omega) h1
    simpa [Env.fill] using this

theorem fit_args {l : List Value} {n : Nat} (hn : n ≤ 1000000) (hl : l.length ≤ n) : Fit (Env.ofArgs l n) (l ++ List.replicate (n - l.length) undef) := by
  have := fit_fill l 0 (Env.room 40 n) [] n rfl hl (by simpa using fit_room hn)
  simpa [Env.ofArgs] using this

theorem list_eq {E : Env} {tm : List Value} (h : Fits E tm) : ∀ (f i : Nat), Env.list E f i = (tm.drop i).take f
  | 0, i => by simp [Env.list]
  | f + 1, i => by
    unfold Env.list
    rw [h i]
    by_cases hl : i < tm.length
    · rw [List.getElem?_eq_getElem hl]
      simp only
      rw [list_eq h f (i + 1), List.drop_eq_getElem_cons hl]; rfl
    · rw [List.getElem?_eq_none (by omega), List.drop_eq_nil_of_le (by omega)]; rfl

theorem list_whole {E : Env} {tm : List Value} (h : Fits E tm) (hl : Nat.ble (E.list 1000001 0).length 1000000 = true) : E.list 1000001 0 = tm := by
  have e := list_eq h 1000001 0
  rw [e] at hl ⊢
  have hl := Nat.le_of_ble_eq_true hl
  rw [List.drop_zero, List.length_take] at hl
  rw [List.drop_zero, List.take_of_length_le (by omega)]
end Go.Mif

namespace Go.Mif
open Go Go.Mir

/-- What the one came to, the other came to. -/
def Same (x : Option OutF) (y : Option Out) : Prop := ∀ e E s, x = some ⟨e, E, s⟩ → ∃ tm, y = some ⟨e, tm, s⟩ ∧ Fit E tm
def SameRc (rf : CodeFF) (rc : CodeF) : Prop := ∀ c E s tm, Fit E tm → Same (rf c E s) (rc c tm s)
def SameTm (x : Option (Env × St)) (y : Option (List Value × St)) : Prop := ∀ E s, x = some (E, s) → ∃ tm, y = some (tm, s) ∧ Fit E tm
def SameV (x y : Option (Value × St)) : Prop := ∀ v s, x = some (v, s) → y = some (v, s)

theorem Same.none (y : Option Out) : Same .none y := fun _ _ _ h => by cases h
theorem SameTm.none (y : Option (List Value × St)) : SameTm .none y := fun _ _ h => by cases h
theorem SameV.none (y : Option (Value × St)) : SameV .none y := fun _ _ h => by cases h
theorem SameV.refl (y : Option (Value × St)) : SameV y y := fun _ _ h => h
theorem Same.some {E : Env} {tm : List Value} (x : Ex) (s : St) (h : Fit E tm) : Same (.some ⟨x, E, s⟩) (.some ⟨x, tm, s⟩) := fun _ _ _ e => by cases e; exact ⟨tm, rfl, h⟩

section
variable (P : Program) {H : Hooks} {rf : CodeFF} {rc : CodeF} {E : Env} {tm : List Value} {s : St}

theorem result_of (h : Fit E tm) (r : ResultVar) : resultF (FP.of P) s E r = Mir.resultA P s tm r := by
  cases r with
  | tmp t => simp only [resultF, Mir.resultA, h.get]
  | cell a t => simp only [resultF, Mir.resultA, h.get, loadT_of]; rfl

theorem resList_of (h : Fit E tm) : ∀ l, resListF (FP.of P) s E l = Mir.resListA P s tm l
  | [] => rfl
  | r :: rs => by
    unfold resListF Mir.resListA
    rw [result_of P h, resList_of h rs]
    cases Mir.resultA P s tm r with
    | none => rfl
    | some v => cases Mir.resListA P s tm rs <;> rfl

theorem results_of (h : Fit E tm) (fn : Func) : resultsF (FP.of P) s fn E = Mir.resultsA P s fn tm := by
  unfold resultsF Mir.resultsA
  rw [resList_of P h]
  cases Mir.resListA P s tm fn.results.toList <;> rfl

theorem leave_of {x : Option OutF} {y : Option Out} (h : Same x y) (fn : Func) : SameV (leaveF (FP.of P) fn x) (Mir.leaveA P fn y) := by
  cases x with
  | none => exact .none _
  | some o =>
    obtain ⟨e, E, s⟩ := o
    obtain ⟨tm, rfl, ht⟩ := h e E s rfl
    cases e with
    | normal => simp only [leaveF, Mir.leaveA, results_of P ht]; exact .refl _
    | ret => simp only [leaveF, Mir.leaveA, results_of P ht]; exact .refl _
    | exit id => exact .none _
    | goto l => exact .none _

theorem call_of (hr : SameRc rf rc) (f : FuncId) (args : List Value) (s : St) : SameV (callF (FP.of P) H rf f args s) (Mir.callA P H rc f args s) := by
  unfold callF Mir.callA
  rw [fun_of]
  cases P.funcs[f]? with
  | none => exact .none _
  | some fn =>
    simp only
    cases H f with
    | some h => exact .refl _
    | none =>
      simp only
      cases fn.body with
      | none => exact .none _
      | some c =>
        simp only
        cases hb : (Nat.ble fn.ntmps 1000000 && Nat.ble args.length fn.ntmps) with
        | false => exact .none _
        | true =>
          simp only [Bool.and_eq_true] at hb
          simp only [cond_true]
          exact leave_of P (hr _ _ _ _ (fit_args (Nat.le_of_ble_eq_true hb.1) (Nat.le_of_ble_eq_true hb.2))) fn

theorem body_of (hr : SameRc rf rc) {x : Option OutF} {y : Option Out} (h : Same x y) (l : Nat) (body : Code) : Same (bodyF rf l body x) (Mir.bodyA rc l body y) := by
  cases x with
  | none => exact .none _
  | some o =>
    obtain ⟨e, E, s⟩ := o
    obtain ⟨tm, rfl, ht⟩ := h e E s rfl
    cases e with
    | normal =>
      simp only [bodyF, Mir.bodyA]
      cases s.get l with
      | none => exact .none _
      | some b =>
        cases b with
        | obj o =>
          cases o with
          | loop r =>
            simp only
            cases r.state with
            | ready => exact hr _ _ _ _ ht
            | _ => exact .none _
          | _ => exact .none _
        | _ => exact .none _
    | _ => exact .none _

theorem endRound_of {x : Option OutF} {y : Option Out} (h : Same x y) (l : Nat) : SameV (endRoundF l x) (Mir.endRoundA l y) := by
  cases x with
  | none => exact .none _
  | some o =>
    obtain ⟨e, E, s⟩ := o
    obtain ⟨tm, rfl, ht⟩ := h e E s rfl
    simp only [endRoundF, Mir.endRoundA]
    cases s.get l with
    | none => exact .none _
    | some b =>
      cases b with
      | obj o =>
        cases o with
        | loop r => exact .refl _
        | _ => exact .none _
      | _ => exact .none _

theorem roundTmps_length : ∀ (l : List (Tmp × Value)) (tm : List Value), (roundTmps l tm).length = tm.length
  | [], tm => rfl
  | (t, a) :: r, tm => by
    unfold roundTmps
    rw [roundTmps_length r]; simp

theorem round_of (hr : SameRc rf rc) (l : Nat) (args : List Value) (s : St) : SameV (roundF rf l args s) (Mir.roundA rc l args s) := by
  unfold roundF Mir.roundA
  cases s.get l with
  | none => exact .none _
  | some b =>
    cases b with
    | obj o =>
      cases o with
      | loop r =>
        simp only
        cases hb : (Nat.beq args.length r.params.toList.length && noRange r.assign && noRange r.body) with
        | false => simp only [Bool.false_and, cond_false]; exact .none _
        | true =>
          simp only [Bool.true_and, cond_true]
          cases hc : Nat.ble r.tmps.toList.length 1000000 with
          | false => exact .none _
          | true =>
            simp only [cond_true]
            refine endRound_of (body_of hr (hr _ _ _ _ ?_) l _) l
            have h1 := roundTmps_length (r.params.toList.zip args) r.tmps.toList
            have := fit_args (l := roundTmps (r.params.toList.zip args) r.tmps.toList) (Nat.le_of_ble_eq_true hc) (by rw [h1]; exact Nat.le_refl _)
            rw [h1] at this
            simpa using this
      | _ => exact .none _
    | _ => exact .none _

theorem wanted_of (h : Fit E tm) (ops : Array Oper) (o : Oper) {b : Bool} (hw : wantedF ops E o = some b) : Mir.wantedA ops tm o = some b := by
  unfold wantedF at hw
  unfold Mir.wantedA
  cases hg : o.guard with
  | none => rw [hg] at hw; exact hw
  | some g =>
    obtain ⟨j, want⟩ := g
    rw [hg] at hw
    simp only at hw ⊢
    cases hj : ops[j]? with
    | none => rw [hj] at hw; cases hw
    | some oj =>
      rw [hj] at hw
      simp only at hw ⊢
      cases hd : oj.dst with
      | none => rw [hd] at hw; cases hw
      | some d =>
        rw [hd] at hw
        simp only [h.get, List.getD_eq_getElem?_getD] at hw
        simp only
        cases ht : tm[d]? with
        | none => rw [ht] at hw; cases hw
        | some v => rw [ht] at hw; simp only [Option.getD_some] at hw; rw [← hw]; cases v <;> first | rfl | (rename_i c; cases c <;> rfl)

theorem exec_of (hr : SameRc rf rc) (r : Option ARes) : SameV (execF (FP.of P) H rf r) (Mir.execA P H rc r) := by
  cases r with
  | none => exact .none _
  | some r =>
    cases r with
    | val v s => exact .refl _
    | call f args s => exact call_of P hr f args s
    | round l args s => exact round_of hr l args s

theorem ops_of (hr : SameRc rf rc) (ops : Array Oper) : ∀ (l : List Oper) (E : Env) (tm : List Value) (s : St), Fit E tm → SameTm (runOpsF (FP.of P) H rf ops l E s) (Mir.runOps P H rc ops l tm s)
  | [], E, tm, s, h => by
    intro E' s' e
    cases e
    exact ⟨tm, rfl, h⟩
  | o :: rest, E, tm, s, h => by
    intro E' s' e
    unfold runOpsF at e
    unfold Mir.runOps
    cases hw : wantedF ops E o with
    | none => rw [hw] at e; cases e
    | some b =>
      rw [hw] at e
      rw [wanted_of h ops o hw]
      cases b with
      | false => exact ops_of hr ops rest _ _ _ (h.put _ _) E' s' e
      | true =>
        simp only at e ⊢
        rw [h.ev, aop_of] at e
        cases hx : execF (FP.of P) H rf (Mir.aop P s tm o) with
        | none => rw [hx] at e; cases e
        | some q =>
          obtain ⟨v, s1⟩ := q
          rw [hx] at e
          rw [exec_of P hr _ v s1 hx]
          exact ops_of hr ops rest _ _ _ (h.put _ _) E' s' e

theorem cls_of (h : Fit E tm) (o : Op) : opClsF (evF E) o = Mir.opCls tm o := by
  rw [h.ev]
  cases o <;> rfl

theorem draw_of (hr : SameRc rf rc) (ops : Array Oper) : ∀ (l : List Oper) (i : Nat) (ms : List Nat) (done : List (Nat × Did)) (E : Env) (tm : List Value) (s : St), Fit E tm → SameTm (runDrawF (FP.of P) H rf ops i l ms done E s) (Mir.runDraw P H rc ops i l ms done tm s)
  | [], i, ms, done, E, tm, s, h => by
    intro E' s' e
    unfold runDrawF at e
    cases e
    exact ⟨tm, by unfold Mir.runDraw; rfl, h⟩
  | o :: rest, i, [], done, E, tm, s, h => by
    intro E' s' e
    unfold runDrawF at e
    cases e
  | o :: rest, i, m :: ms, done, E, tm, s, h => by
    intro E' s' e
    unfold runDrawF at e
    unfold Mir.runDraw
    cases hw : wantedF ops E o with
    | none => rw [hw] at e; cases e
    | some b =>
      rw [hw] at e
      rw [wanted_of h ops o hw]
      cases b with
      | false => exact draw_of hr ops rest _ _ _ _ _ _ (h.put _ _) E' s' e
      | true =>
        simp only at e ⊢
        rw [cls_of h, h.ev, aop_of] at e
        cases hx : execF (FP.of P) H rf (Mir.aop P { heap := s.heap, next := s.next, lo := s.next } tm o) with
        | none => rw [hx] at e; cases e
        | some q =>
          obtain ⟨v, s1⟩ := q
          rw [hx] at e
          rw [exec_of P hr _ v s1 hx]
          simp only at e ⊢
          cases ha : apartAll m (didOf s s1 (Mir.opCls tm o.op)) done with
          | false => rw [ha] at e; cases e
          | true =>
            rw [ha] at e
            exact draw_of hr ops rest _ _ _ _ _ _ (h.put _ _) E' s' e

theorem drawn_of (hr : SameRc rf rc) (ops : Array Oper) (h : Fit E tm) : SameTm (drawF (FP.of P) H rf ops E s) (Mir.drawA P H rc ops tm s) := by
  unfold drawF Mir.drawA
  cases (Mir.distinct (ops.toList.map (·.dst)) && drawOk ops (ops.toList.map (·.dst)) (befA [] ops.toList) 0 ops.toList (befA [] ops.toList)) with
  | false => exact .none _
  | true => exact draw_of P hr ops _ _ _ _ _ _ _ h

theorem region_of {x : Option (Env × St)} {y : Option (List Value × St)} (h : SameTm x y) : Same (regionF x) (Mir.regionA y) := by
  cases x with
  | none => exact .none _
  | some q =>
    obtain ⟨E, s⟩ := q
    obtain ⟨tm, rfl, ht⟩ := h E s rfl
    exact .some _ _ ht

theorem seq_of (hr : SameRc rf rc) {x : Option OutF} {y : Option Out} (h : Same x y) (b : Code) : Same (seqF rf b x) (Mir.seqA rc b y) := by
  cases x with
  | none => exact .none _
  | some o =>
    obtain ⟨e, E, s⟩ := o
    obtain ⟨tm, rfl, ht⟩ := h e E s rfl
    cases e with
    | normal => exact hr _ _ _ _ ht
    | _ => exact .some _ _ ht

theorem cond_of (hr : SameRc rf rc) (h : Fit E tm) (a b : Code) (v : Value) : Same (condF rf a b E s v) (Mir.condA rc a b tm s v) := by
  cases v with
  | bool c => cases c <;> exact hr _ _ _ _ h
  | _ => exact .none _

theorem block_of {x : Option OutF} {y : Option Out} (h : Same x y) (id : Nat) : Same (blockF id x) (Mir.blockA id y) := by
  cases x with
  | none => exact .none _
  | some o =>
    obtain ⟨e, E, s⟩ := o
    obtain ⟨tm, rfl, ht⟩ := h e E s rfl
    cases e with
    | exit i =>
      simp only [blockF, Mir.blockA]
      cases i.beq id <;> exact .some _ _ ht
    | _ => exact .some _ _ ht

theorem scope_of {x : Option OutF} {y : Option Out} (h : Same x y) : Same (scopeF x) (Mir.scopeA y) := by
  cases x with
  | none => exact .none _
  | some o =>
    obtain ⟨e, E, s⟩ := o
    obtain ⟨tm, rfl, ht⟩ := h e E s rfl
    cases e with
    | goto i => exact .none _
    | _ => exact .some _ _ ht

theorem jump_of (h : Fit E tm) (j : Option Code) : Same (jumpOutF E s j) (Mir.jumpOut tm s j) := by
  cases j with
  | none => exact .some _ _ h
  | some c =>
    cases c with
    | ret | exit | goto => exact .some _ _ h
    | _ => exact .none _

theorem endRange_of (h : Fit E tm) (l : Nat) {x y : Option (Value × St)} (hv : SameV x y) : Same (endRangeF E l x) (Mir.endRangeA tm l y) := by
  cases x with
  | none => exact .none _
  | some q =>
    obtain ⟨v, s⟩ := q
    rw [hv v s rfl]
    simp only [endRangeF, Mir.endRangeA]
    cases s.get l with
    | none => exact .none _
    | some b =>
      cases b with
      | obj o =>
        cases o with
        | loop r =>
          simp only
          cases r.state with
          | busy => exact .none _
          | _ => exact jump_of h _
        | _ => exact .none _
      | _ => exact .none _

theorem range_of (hr : SameRc rf rc) (h : Fit E tm) (f : Value) (params : Array Tmp) (assign body : Code) : Same (rangeF (FP.of P) H rf f params assign body E s) (Mir.rangeA P H rc f params assign body tm s) := by
  unfold rangeF Mir.rangeA
  cases hl : Nat.ble (E.list 1000001 0).length 1000000 with
  | false => exact .none _
  | true =>
    rw [list_whole h.fits hl]
    simp only [cond_true]
    cases newObjA s (.loop { state := .ready, pending := none, fn := 0, tmps := ⟨tm⟩, params, assign, body, defers := 0 }) with
    | none => exact .none _
    | some q =>
      obtain ⟨l, s1⟩ := q
      simp only
      cases f with
      | func fn first captured =>
        cases fn with
        | func g =>
          simp only
          cases H g with
          | none => exact endRange_of h l (call_of P hr g _ s1)
          | some _ => exact .none _
        | _ => exact .none _
      | _ => exact .none _

theorem step_of (hr : SameRc rf rc) (h : Fit E tm) (c : Code) : Same (stepCodeF (FP.of P) H rf c E s) (Mir.stepCode P H rc c tm s) := by
  cases c with
  | skip => exact .some _ _ h
  | label l => exact .some _ _ h
  | region id ops draw =>
    cases draw with
    | false => exact region_of (ops_of P hr ops _ _ _ _ h)
    | true => exact region_of (drawn_of P hr ops h)
  | seq a b => exact seq_of hr (hr _ _ _ _ h) b
  | cond c a b =>
    show Same (condF rf a b E s (evF E c)) (Mir.condA rc a b tm s (Mir.ev tm c))
    rw [h.ev]; exact cond_of hr h a b _
  | block id body => exact block_of (hr _ _ _ _ h) id
  | loop body => exact seq_of hr (hr _ _ _ _ h) (.loop body)
  | scope body => exact scope_of (hr _ _ _ _ h)
  | exit id => exact .some _ _ h
  | goto l => exact .some _ _ h
  | ret => exact .some _ _ h
  | rangeFunc f params assign body =>
    show Same (rangeF (FP.of P) H rf (evF E f) params assign body E s) (Mir.rangeA P H rc (Mir.ev tm f) params assign body tm s)
    rw [h.ev]; exact range_of P hr h _ _ _ _
  | refuse w => exact .none _

theorem run_of : ∀ n, SameRc (runCodeF (FP.of P) H n) (Mir.runCode P H n)
  | 0 => fun _ _ _ _ _ => .none _
  | n + 1 => fun c _ _ _ h => step_of P (run_of n) h c

theorem runFn_of (n : Nat) (f : FuncId) (args : List Value) (s : St) : SameV (runFnF (FP.of P) H n f args s) (Mir.runFn P H n f args s) := call_of P (run_of P n) f args s
end

/-! ### Looking up in tries -/
structure FP.Fits (F : FP) (P : Program) : Prop where
  prog : F.prog = P
  info : ∀ t, F.info? t = P.info? t
  und : ∀ t, F.underlying t = P.underlying t
  fn : ∀ f, F.fun? f = P.funcs[f]?

theorem FP.Fits.eq {F : FP} {P : Program} (h : F.Fits P) : F = FP.of P := by
  obtain ⟨p, i, u, f⟩ := F
  obtain ⟨h1, h2, h3, h4⟩ := h
  simp only at h1 h2 h3 h4
  subst h1
  obtain rfl : i = p.info? := funext h2
  obtain rfl : u = p.underlying := funext h3
  obtain rfl : f = fun f => p.funcs[f]? := funext h4
  rfl

theorem runFn_fast {F : FP} {P : Program} (h : F.Fits P) {H : Hooks} {n : Nat} {f : FuncId} {args : List Value} {s : St} {v : Value} {s' : St} (e : runFnF F H n f args s = some (v, s')) : Mir.runFn P H n f args s = some (v, s') := by
  rw [h.eq] at e
  exact runFn_of P n f args s v s' e
end Go.Mif

namespace Go.Mif
open Go Go.Mir Go.RowKit
noncomputable section

def fill {α : Type} : List α → Nat → T α → T α
  | [], _, t => t
  | v :: l, i, t => fill l (i + 1) (T.set 40 t i v)

theorem fill_get {α : Type} : ∀ (l : List α) (i : Nat) (t : T α) (n : Nat), i + l.length < 1073741824 → (fill l i t).get n = if i ≤ n ∧ n < i + l.length then l[n - i]? else t.get n
  | [], i, t, n, _ => by
    unfold fill
    simp
    omega
  | v :: l, i, t, n, h => by
    unfold fill
    simp only [List.length_cons] at h ⊢
    rw [fill_get l (i + 1) _ n (by omega), T.get_set v 40 t i n (by omega)]
    by_cases h1 : i + 1 ≤ n ∧ n < i + 1 + l.length
    · rw [if_pos h1, if_pos (by omega)]
      obtain ⟨k, rfl⟩ : ∃ k, n = i + 1 + k := ⟨n - (i + 1), by omega⟩
      rw [show i + 1 + k - (i + 1) = k by omega, show i + 1 + k - i = k + 1 by omega]; rfl
    · rw [if_neg h1]
      by_cases h2 : n = i
      · subst h2; rw [if_pos rfl, if_pos (by omega), Nat.sub_self]; rfl
      · rw [if_neg h2, if_neg (by omega)]

theorem fill_all {α : Type} (l : List α) (h : Nat.blt l.length 1073741824 = true) (n : Nat) : (fill l 0 .leaf).get n = l[n]? := by
  rw [fill_get l 0 .leaf n (by have := Nat.le_of_ble_eq_true h; omega)]
  by_cases h1 : n < l.length
  · rw [if_pos (by omega)]; rfl
  · rw [if_neg (by omega), T.get_leaf, List.getElem?_eq_none (by omega)]

def descOf (I : TypeId → Option TypeInfo) (t : TypeId) : Option TypeDesc :=
  match I t with
  | some { desc := .named _ u, .. } => (I u).map (·.desc)
  | some i => some i.desc
  | none => none

def fastInfo (P : Program) (t : TypeId) : Option TypeInfo :=
  match (fill P.types.toList 0 .leaf).get t with
  | some i => some i
  | none => P.info? t
def FP.fast (P : Program) : FP := ⟨P, fastInfo P, descOf (fastInfo P), fun f => (fill P.funcs.toList 0 .leaf).get f⟩

theorem info_eq (P : Program) (h : Nat.blt P.types.toList.length 1073741824 = true) : fastInfo P = P.info? := by
  funext t
  unfold fastInfo
  rw [fill_all _ h, Array.getElem?_toList]
  show _ = Tables.info? P.toTables t
  unfold Tables.info?
  by_cases hl : t < P.types.size
  · rw [if_pos hl, Array.getElem?_eq_getElem hl]
  · rw [Array.getElem?_eq_none (Nat.le_of_not_lt hl)]

theorem FP.fast_fits (P : Program) (h1 : Nat.blt P.types.toList.length 1073741824 = true) (h2 : Nat.blt P.funcs.toList.length 1073741824 = true) : (FP.fast P).Fits P where
  prog := rfl
  info := fun t => congrFun (info_eq P h1) t
  und := fun t => by
    show descOf (fastInfo P) t = _
    rw [info_eq P h1]
    rfl
  fn := fun f => by
    show (fill P.funcs.toList 0 .leaf).get f = _
    rw [fill_all _ h2, Array.getElem?_toList]

theorem gave_inv {b : Bool} {x : Option (Value × St)} (h : gave b x = true) : ∃ S, x = some (.bool b, S) := by
  cases x with
  | none => cases h
  | some q =>
    obtain ⟨v, S⟩ := q
    cases v <;> simp only [gave, beq_iff_eq, reduceCtorEq, Bool.false_eq_true] at h
    subst h; exact ⟨S, rfl⟩

/-- What a program owes the machine. -/
structure Ready (P : Program) : Prop where
  names : NamesOk P
  mixed : P.follows .mixedOrders = true
  globals : Nat.ble (P.globals.size + 8) 1073741824 = true
  types : Nat.blt P.types.toList.length 1073741824 = true
  funcs : Nat.blt P.funcs.toList.length 1073741824 = true

/-- From the fast run of a function at plain arguments, that comes to plain values. -/
theorem Ready.pure {P : Program} (R : Ready P) {H : Hooks} {w : World} (hH : HookOk P w H) (hHk : HookKept H) {n : Nat} {f : FuncId} {args : List Value} {v : Value} {S' : St} (hf : H f = none) (ha : plainArgs args = true) (hv : plainR v = true)
    (h : runFnF (FP.fast P) H n f args (Mir.start P) = some (v, S')) : Calls P f ⟨args⟩ w fun e w' => e = .returned v ∧ Below w.heap.size w w' :=
  runFn_pure R.names hH hHk R.mixed R.globals hf ha hv (runFn_fast (FP.fast_fits P R.types R.funcs) h)

theorem Ready.bool {P : Program} (R : Ready P) {H : Hooks} {w : World} (hH : HookOk P w H) (hHk : HookKept H) {n : Nat} {f : FuncId} {args : List Value} {b : Bool} (hf : H f = none) (ha : plainArgs args = true)
    (h : gave b (runFnF (FP.fast P) H n f args (Mir.start P)) = true) : Calls P f ⟨args⟩ w fun e w' => e = .returned (.bool b) ∧ Below w.heap.size w w' := by
  obtain ⟨S, e⟩ := gave_inv h
  exact R.pure hH hHk hf ha rfl e
end
end Go.Mif

namespace Go.Mir
open Go Go.RowKit Go.ChangeShapes Go.WideShapes Go.ChangeAt

theorem below_trodAll {H : Type} {enc : TypeId × Value → H} {P : Program} (hl : laidOutB P = true) {W W' : World} (hb : Below W.heap.size W W') (sp : Nat → Bool) :
    ∀ (ts : List TypeId) (vs : List Value) (ds : List (DataW H)) (ps : List MemPlace), (ts.all fun t => P.readableRec t && decide (t < P.types.size)) = true → (∀ p ∈ ps, p.block < W.heap.size) → (∀ p ∈ ps, sp p.block = true) →
      DataW.TrodAll enc P W 0 (fun _ => true) true ts vs ds ps → DataW.TrodAll enc P W' 0 sp true ts vs ds ps
  | [], vs, ds, ps, _, _, _, h => by
    obtain ⟨rfl, rfl, rfl⟩ := trodAll_nil h
    exact trodAll_mk0
  | t :: ts, vs, ds, ps, hr, hlt, hsp, h => by
    obtain ⟨v, vs', d, ds', p, q, rfl, rfl, rfl, h0, r0⟩ := trodAll_cons h
    rw [List.all_cons, Bool.and_eq_true, Bool.and_eq_true] at hr
    obtain ⟨⟨h1, h2⟩, h3⟩ := hr
    refine trodAll_cons_mk ?_ (below_trodAll hl hb sp ts vs' ds' q h3 (fun x hx => hlt x (List.mem_append.2 (.inr hx))) (fun x hx => hsp x (List.mem_append.2 (.inr hx))) r0)
    exact WideElems.Trod_stays hl h1 (of_decide_eq_true h2) h0 (fun x hx => hb.same (hlt x (List.mem_append.2 (.inl hx)))) (fun x hx => hsp x (List.mem_append.2 (.inl hx)))

section
variable {H : Type} {enc : TypeId × Value → H} {P : Program}
theorem post_of_below {f : Func} {s : ChangeSpec} {apart fresh handsOn again : Bool} {W W' : World} {args : Array Value} {v : Value} {ds gs : List (DataW H)} {before pa pv : List MemPlace}
    (hW : DataW.Whole enc P f.params.toList s.vars apart W args.toList ds gs before)
    (hres : ∀ (b : Nat) (sp : Nat → Bool) (hd : Bool), DataW.TrodAll enc P W' b sp hd f.resultTypes.toList (v.resultList f.resultTypes.size) (s.fn H (ds ++ gs)).results [])
    (hargs : ∀ sp : Nat → Bool, (∀ p ∈ before, sp p.block = true) → DataW.TrodAll enc P W' 0 sp true f.params.toList args.toList (s.fn H (ds ++ gs)).args pa)
    (hvars : ∀ sp : Nat → Bool, (∀ p ∈ before, sp p.block = true) → DataW.TrodVars enc P W' sp s.vars (s.fn H (ds ++ gs)).vars pv)
    (hps : before = pa ++ pv) (hb : Below W.heap.size W W')
    (hok : ∀ (j : Nat) (t : TypeId) (r : Value), f.resultTypes[j]? = some t → (v.resultList f.resultTypes.size)[j]? = some r → Value.okWide P W' .any 0 t r) :
    s.post enc P f apart fresh handsOn again W args v W' := by
  have hlt : ∀ p ∈ before, p.block < W.heap.size := fun p hp => hW.lt p hp
  have hold : ∀ p ∈ before, (fun b => decide (b < W.heap.size)) p.block = true := fun p hp => by simpa using hlt p hp
  refine ⟨ds, gs, before, [], pa, pv, hW, hres _ _ _, hargs _ hold, hvars _ hold, World.keptBut_mono (fun p hp => ⟨hp, ?_⟩) (hb.frame (· ∈ before)), fun _ => ?_⟩
  · rw [hps, List.mem_append] at hp
    exact Or.inr hp
  · obtain ⟨_, _, _, _, _, hz, hn⟩ := hW
    refine ⟨hok, _, _, ([] ++ pa) ++ pv, ⟨[] ++ pa, pv, trodAll_append (hargs _ (fun _ _ => rfl)) (hres _ _ _), hvars _ (fun _ _ => rfl), rfl, ?_, ?_⟩, ?_⟩
    · intro b off hp
      have hin : MemPlace.cell b off ∈ before := by rw [hps]; simpa using hp
      rw [hb.frozen (hlt _ hin)]
      exact hz b off hin
    · intro ha
      have := hn ha
      rw [hps] at this
      simpa using this
    · intro p hp _
      rw [hps]
      simpa using hp

/-- What a law's row asks behind the call. -/
theorem law_post {f : Func} {s : ChangeSpec} {W W' : World} {args : Array Value} {ds gs : List (DataW H)} {before : List MemPlace} {tb : TypeId}
    (hW : DataW.Whole enc P f.params.toList s.vars false W args.toList ds gs before) (hv : s.vars = [])
    (hl : laidOutB P = true) (hr : (f.params.toList.all fun t => P.readableRec t && decide (t < P.types.size)) = true) (hres : f.resultTypes = #[tb]) (htb : P.underlying tb = some .bool)
    (hs : s.fn H ds = { results := [.lit (.bool true)], args := ds }) (hb : Below W.heap.size W W') : s.post enc P f false true false false W args (.bool true) W' := by
  have hW' := hW
  obtain ⟨p, q, hA0, hV, rfl, hfz, hnd⟩ := hW
  have hA : DataW.TrodAll enc P W 0 (fun _ => true) true f.params.toList args.toList ds p := hA0
  rw [hv] at hV
  obtain ⟨rfl, rfl⟩ := trodVars_none hV
  have hlt := hW'.lt
  refine post_of_below (pa := p) (pv := []) hW' ?_ ?_ ?_ rfl hb ?_
  · intro b sp hd
    rw [hres, List.append_nil, hs]
    exact trodAll_cons_mk (shut_bool htb _) trodAll_mk0
  · intro sp hsp
    rw [List.append_nil, hs]
    refine below_trodAll hl hb sp _ _ _ _ hr (fun x hx => hlt x (List.mem_append.2 (.inl hx))) (fun x hx => hsp x (List.mem_append.2 (.inl hx))) hA
  · intro sp hsp
    rw [hv, List.append_nil, hs]
    rfl
  · exact ok_one hres rfl (okWide_bool_mk htb _)
end
end Go.Mir
