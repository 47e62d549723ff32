/- An abstract, deterministic machine over the model's code, and the proof that whatever runs through in it is what the code does in every world (part 1 of 4; no condition of its own). -/
import GoSem.Step
import Derived.RangeFuncLeaves
import Derived.OrdersIn
import Derived.Laws.Sem
import Derived.Laws.Cells
import Derived.Laws.Entries
import Derived.Laws.StructEq
import Derived.Laws.BytesString
namespace Go.Mir
open Go
noncomputable section

inductive T (α : Type) where
  | leaf
  | node (l : T α) (v : Option α) (r : T α)

/-- Looking up: by the recursor itself, which the kernel follows with the fewest steps. -/
def T.get {α : Type} (t : T α) (n : Nat) : Option α :=
  T.rec (motive := fun _ => Nat → Option α) (fun _ => none)
    (fun _ v _ getl getr n => Bool.rec (motive := fun _ => Option α) (Bool.rec (motive := fun _ => Option α) (getr (Nat.sub (Nat.div n 2) 1)) (getl (Nat.div n 2)) (Nat.beq (Nat.mod n 2) 1)) v (Nat.beq n 0)) t n

def T.set {α : Type} (f : Nat) (t : T α) (n : Nat) (a : α) : T α :=
  Nat.rec (motive := fun _ => T α → Nat → T α) (fun t _ => t)
    (fun _ ih t n => T.rec (motive := fun _ => T α)
      (Bool.rec (motive := fun _ => T α) (Bool.rec (motive := fun _ => T α) (.node .leaf none (ih .leaf (Nat.sub (Nat.div n 2) 1))) (.node (ih .leaf (Nat.div n 2)) none .leaf) (Nat.beq (Nat.mod n 2) 1)) (.node .leaf (some a) .leaf) (Nat.beq n 0))
      (fun l v r _ _ => Bool.rec (motive := fun _ => T α) (Bool.rec (motive := fun _ => T α) (.node l v (ih r (Nat.sub (Nat.div n 2) 1))) (.node (ih l (Nat.div n 2)) v r) (Nat.beq (Nat.mod n 2) 1)) (.node l (some a) r) (Nat.beq n 0)) t) f t n

theorem bool_rec {α : Type} (b : Bool) (x y : α) : Bool.rec (motive := fun _ => α) x y b = bif b then y else x := by cases b <;> rfl
theorem T.get_leaf {α : Type} (n : Nat) : (T.leaf : T α).get n = none := rfl
theorem T.get_node {α : Type} (l r : T α) (v : Option α) (n : Nat) : (T.node l v r).get n = bif n.beq 0 then v else bif (n % 2).beq 1 then l.get (n / 2) else r.get (n / 2 - 1) := by
  unfold T.get
  simp only [bool_rec]
  rfl
theorem T.set_zero {α : Type} (t : T α) (n : Nat) (a : α) : T.set 0 t n a = t := rfl
theorem T.set_leaf {α : Type} (f n : Nat) (a : α) : T.set (f + 1) .leaf n a =
    bif n.beq 0 then .node .leaf (some a) .leaf else bif (n % 2).beq 1 then .node (T.set f .leaf (n / 2) a) none .leaf else .node .leaf none (T.set f .leaf (n / 2 - 1) a) := by
  unfold T.set
  simp only [bool_rec]
  rfl
theorem T.set_node {α : Type} (f n : Nat) (l r : T α) (v : Option α) (a : α) : T.set (f + 1) (.node l v r) n a =
    bif n.beq 0 then .node l (some a) r else bif (n % 2).beq 1 then .node (T.set f l (n / 2) a) v r else .node l v (T.set f r (n / 2 - 1) a) := by
  unfold T.set
  simp only [bool_rec]
  rfl

/-- An abstract block: a row of cells; another object; a block that may not be used any more. -/
inductive ABlk where
  | cells (cs : List Value) (elem : TypeId) (grown : Bool)
  | ro (cs : List Value) (elem : TypeId)
  | obj (o : Obj)
  | dead

/-- The blocks; the next one's number; the least number that was written since this was set. -/
structure St where
  heap : T ABlk
  next : Nat
  lo : Nat

def St.get (s : St) (b : Nat) : Option ABlk := s.heap.get b
def St.put (s : St) (b : Nat) (x : ABlk) : St := { heap := T.set 40 s.heap b x, next := s.next, lo := Nat.min s.lo b }
def St.push (s : St) (x : ABlk) : St := { heap := T.set 40 s.heap s.next x, next := s.next + 1, lo := s.lo }

inductive Ex where
  | normal | exit (id : Nat) | goto (l : Nat) | ret

structure Out where
  x : Ex
  tm : List Value
  s : St

def oneCell : Value → Bool
  | .agg _ | .tuple _ | .chan _ => false
  | _ => true

inductive ARes where
  | val (v : Value) (s : St)
  | call (f : FuncId) (args : List Value) (s : St)
  | round (l : Nat) (args : List Value) (s : St)

def newSlice (s : St) (elem : TypeId) (cs : List Value) (grown : Bool) (l c : Nat) : Option (Value × St) :=
  bif Nat.ble s.next 1073741823 then some (.slice (some ⟨s.next, 0, none⟩) l c, (s.push (.cells cs elem grown))) else none

def newObjA (s : St) (o : Obj) : Option (Nat × St) :=
  bif Nat.ble s.next 1073741823 then some (s.next, (s.push (.obj o))) else none

/-- A term of the model that only looks at the program. -/
def pureRun {α : Type} (P : Program) : Sem α → Option α
  | .pure a => some a
  | .program k => pureRun P (k P)
  | .mark _ k => pureRun P k
  | _ => none

/-- A value of one cell, without an address. -/
def plain1 : Value → Bool
  | .bool _ | .int _ _ | .string _ | .pointer none | .slice none _ _ | .map none | .nilFunc | .nilIface => true
  | _ => false

/-- A value without an address. -/
def plainV : Value → Bool
  | .agg cs => cs.toList.all plain1
  | v => plain1 v

def ev (tm : List Value) : Operand → Value
  | .tmp t => tm.getD t undef
  | .const v => bif plainV v then v else undef
  | .global _ => undef
  | .func f => .func (.func f) #[] #[]

def put (tm : List Value) : Option Tmp → Value → List Value
  | some d, v => tm.set d v
  | none, _ => tm

def sizeT (P : Program) (t : TypeId) : Option Nat := (P.info? t).map (·.size)
def zeroT (P : Program) (t : TypeId) : Option Value :=
  match P.info? t with
  | some i => match i.zero with
    | some z => bif plainV z then some z else none
    | none => none
  | none => none
def newVar (P : Program) (s : St) (elem : TypeId) (cs : List Value) : Option ARes :=
  match sizeT P elem with
  | some _ => bif Nat.ble s.next 1073741823 && cs.all oneCell then some (.val (.pointer (some ⟨s.next, 0, none⟩)) (s.push (.cells cs elem false))) else none
  | none => none

def aggT (P : Program) (t : TypeId) : Option Bool :=
  match P.underlying t with
  | some (.struct _) | some (.array _ _) => some true
  | some _ => some false
  | none => none

/-- The cells of a block that may be read. -/
def St.row (s : St) (b : Nat) : Option (List Value) :=
  match s.get b with
  | some (.cells cs _ _) => some cs
  | some (.ro cs _) => some cs
  | _ => none

def cellsAt (s : St) (a : Addr) (n : Nat) : Option (List Value) :=
  match a.spot, s.row a.block with
  | none, some cs => bif Nat.ble (a.off + n) cs.length then some ((cs.drop a.off).take n) else none
  | _, _ => none

def cellAt (s : St) (a : Addr) : Option Value :=
  match a.spot, s.row a.block with
  | none, some cs => cs[a.off]?
  | _, _ => none

def loadT (P : Program) (s : St) (t : TypeId) (a : Addr) : Option Value :=
  match aggT P t with
  | some true => match sizeT P t with
    | some n => match cellsAt s a n with
      | some l => some (.agg ⟨l⟩)
      | none => none
    | none => none
  | some false => cellAt s a
  | none => none

def splice (cs : List Value) (i : Nat) (vs : List Value) : List Value := cs.take i ++ vs ++ cs.drop (i + vs.length)

def storeCellsA (s : St) (a : Addr) (vs : List Value) : Option St :=
  match vs with
  | [] => some s
  | _ :: _ =>
  match a.spot, s.get a.block with
  | none, some (.cells cs e g) => bif Nat.ble (a.off + vs.length) cs.length then some (s.put a.block (.cells (splice cs a.off vs) e g)) else none
  | _, _ => none

def storeT (P : Program) (s : St) (t : TypeId) (a : Addr) (v : Value) : Option St :=
  match sizeT P t with
  | some n => bif v.cells.size == n && v.cells.toList.all oneCell then storeCellsA s a v.cells.toList else none
  | none => none

def partT (P : Program) (t : TypeId) (cs : Array Value) (off : Nat) : Option Value :=
  match aggT P t with
  | some true => match sizeT P t with
    | some n => some (.agg ⟨(cs.toList.drop off).take n⟩)
    | none => none
  | some false => cs.toList[off]?
  | none => none

def int? : Value → Option Int
  | .int _ n => some n
  | _ => none

/-- 2 to the number of bits. -/
def pow2 : IntKind → Nat
  | .i8 | .u8 => 256
  | .i16 | .u16 => 65536
  | .i32 | .u32 => 4294967296
  | .i64 | .u64 => 18446744073709551616

/-- A number below 2 to the bits, as one of the kind. -/
def ofLow (k : IntKind) (m : Nat) : Int :=
  match k with
  | .u8 | .u16 | .u32 | .u64 => .ofNat m
  | _ => bif Nat.ble (pow2 k) (2 * m) then Int.negSucc (pow2 k - 1 - m) else .ofNat m

/-- An integer's remainder by 2 to the bits. -/
def lowOf (k : IntKind) : Int → Nat
  | .ofNat m => m % pow2 k
  | .negSucc m => pow2 k - 1 - m % pow2 k

def wrapA (k : IntKind) (n : Int) : Int := ofLow k (lowOf k n)

def intLt : Int → Int → Bool
  | .ofNat a, .ofNat b => Nat.blt a b
  | .ofNat _, .negSucc _ => false
  | .negSucc _, .ofNat _ => true
  | .negSucc a, .negSucc b => Nat.blt b a

def intEq : Int → Int → Bool
  | .ofNat a, .ofNat b => Nat.beq a b
  | .negSucc a, .negSucc b => Nat.beq a b
  | _, _ => false

def kindEq : IntKind → IntKind → Bool
  | .i8, .i8 | .i16, .i16 | .i32, .i32 | .i64, .i64 | .u8, .u8 | .u16, .u16 | .u32, .u32 | .u64, .u64 => true
  | _, _ => false

def shiftA (k : IntKind) (left : Bool) (x : Int) : Int → Option Value
  | .ofNat y =>
      match left, x with
      | true, x => some (.int k (wrapA k (x * .ofNat (2 ^ (bif Nat.ble y k.bits then y else k.bits)))))
      | false, .ofNat a => some (.int k (.ofNat (a / 2 ^ (bif Nat.ble y k.bits then y else k.bits))))
      | false, .negSucc a => some (.int k (.negSucc (a / 2 ^ (bif Nat.ble y k.bits then y else k.bits))))
  | .negSucc _ => none

def divA (k : IntKind) (quo : Bool) (x y : Int) : Option Value :=
  bif intEq y 0 then none else some (.int k (match quo with | true => wrapA k (x.tdiv y) | false => x.tmod y))

def aint (op : BinOp) (k : IntKind) (x : Int) (k' : IntKind) (y : Int) : Option Value :=
  match op with
  | .shl => shiftA k true x y
  | .shr => shiftA k false x y
  | .add => bif kindEq k k' then some (.int k (wrapA k (x + y))) else none
  | .sub => bif kindEq k k' then some (.int k (wrapA k (x - y))) else none
  | .mul => bif kindEq k k' then some (.int k (wrapA k (x * y))) else none
  | .quo => bif kindEq k k' then divA k true x y else none
  | .rem => bif kindEq k k' then divA k false x y else none
  | .and => bif kindEq k k' then some (.int k (ofLow k (Nat.land (lowOf k x) (lowOf k y)))) else none
  | .or => bif kindEq k k' then some (.int k (ofLow k (Nat.lor (lowOf k x) (lowOf k y)))) else none
  | .xor => bif kindEq k k' then some (.int k (ofLow k (Nat.xor (lowOf k x) (lowOf k y)))) else none
  | .andNot => bif kindEq k k' then some (.int k (ofLow k (Nat.land (lowOf k x) (pow2 k - 1 - lowOf k y)))) else none
  | .eql => bif kindEq k k' then some (.bool (intEq x y)) else none
  | .neq => bif kindEq k k' then some (.bool (!(intEq x y))) else none
  | .lss => bif kindEq k k' then some (.bool (intLt x y)) else none
  | .leq => bif kindEq k k' then some (.bool (!(intLt y x))) else none
  | .gtr => bif kindEq k k' then some (.bool (intLt y x)) else none
  | .geq => bif kindEq k k' then some (.bool (!(intLt x y))) else none

def bytesEq : List UInt8 → List UInt8 → Bool
  | [], [] => true
  | a :: x, b :: y => bif Nat.beq a.toNat b.toNat then bytesEq x y else false
  | _, _ => false

def aeqFields (P : Program) (rec : TypeId → Value → Value → Option Bool) (xs ys : Array Value) : List Field → Option Bool
  | [] => some true
  | f :: fs =>
    if f.name ≠ "_" then
      match partT P f.type xs f.offset, partT P f.type ys f.offset with
      | some a, some b => match rec f.type a b with
        | some true => aeqFields P rec xs ys fs
        | some false => some false
        | none => none
      | _, _ => none
    else aeqFields P rec xs ys fs

def aeqElems (P : Program) (rec : TypeId → Value → Value → Option Bool) (elem : TypeId) (n : Nat) (xs ys : Array Value) : List Nat → Option Bool
  | [] => some true
  | i :: is =>
    match partT P elem xs (i * n), partT P elem ys (i * n) with
    | some a, some b => match rec elem a b with
      | some true => aeqElems P rec elem n xs ys is
      | some false => some false
      | none => none
    | _, _ => none

def aeqIface (P : Program) (rec : TypeId → Value → Value → Option Bool) (tx ty : TypeId) (vx vy : Value) : Option Bool :=
  bif Nat.beq tx ty then
    match P.info? tx with
    | some i => bif i.comparable then rec tx vx vy else none
    | none => none
  else some false

/-- Equality, without looking at addresses. -/
def aeq (P : Program) : Nat → TypeId → Value → Value → Option Bool
  | 0, _, _, _ => none
  | d + 1, t, x, y =>
    match P.underlying t, x, y with
    | some .bool, .bool a, .bool b => some (a == b)
    | some (.int _), .int k a, .int k' b => bif kindEq k k' then some (intEq a b) else none
    | some .string, .string a, .string b => some (bytesEq a.data.toList b.data.toList)
    | some (.pointer _), .pointer none, .pointer b => some b.isNone
    | some (.pointer _), .pointer (some _), .pointer none => some false
    | some (.interface _), .nilIface, .nilIface => some true
    | some (.interface _), .nilIface, .iface _ _ => some false
    | some (.interface _), .iface _ _, .nilIface => some false
    | some (.interface _), .iface tx vx, .iface ty vy => aeqIface P (aeq P d) tx ty vx vy
    | some (.struct fields), .agg xs, .agg ys => bif P.stoodInHeld t then none else aeqFields P (aeq P d) xs ys fields.toList
    | some (.array len elem), .agg xs, .agg ys =>
      match sizeT P elem with
      | some n => aeqElems P (aeq P d) elem n xs ys (List.range' 0 len)
      | none => none
    | some (.slice _), .slice none _ _, .slice b _ _ => some b.isNone
    | some (.slice _), .slice (some _) _ _, .slice none _ _ => some false
    | some (.map _ _), .map none, .map b => some b.isNone
    | some (.map _ _), .map (some _), .map none => some false
    | some (.func _ _ _), .nilFunc, .nilFunc => some true
    | some (.func _ _ _), .nilFunc, .func _ _ _ => some false
    | some (.func _ _ _), .func _ _ _, .nilFunc => some false
    | _, _, _ => none

def isConst : Operand → Bool
  | .const _ => true
  | _ => false

def bytesLt : List UInt8 → List UInt8 → Bool
  | _, [] => false
  | [], _ :: _ => true
  | a :: x, b :: y => bif Nat.blt a.toNat b.toNat then true else bif Nat.beq a.toNat b.toNat then bytesLt x y else false

def astr (op : BinOp) (a b : List UInt8) : Option Value :=
  match op with
  | .add => bif Nat.ble (a.length + b.length) 1099511627776 then some (.string ⟨⟨a ++ b⟩⟩) else none
  | .eql => some (.bool (bytesEq a b))
  | .neq => some (.bool !(bytesEq a b))
  | .lss => some (.bool (bytesLt a b))
  | .leq => some (.bool (!(bytesLt b a)))
  | .gtr => some (.bool (bytesLt b a))
  | .geq => some (.bool (!(bytesLt a b)))
  | _ => none

def eqGuardA (P : Program) (t : TypeId) (xo yo : Operand) (x y : Value) : Bool :=
  match x, y with
  | .nilIface, .nilIface => isConst xo || isConst yo
  | .agg _, .agg _ => !P.eqGuardType P.depth t
  | _, _ => true

def abinOther (P : Program) (op : BinOp) (t : TypeId) (xo yo : Operand) (x y : Value) : Option Value :=
  bif eqGuardA P t xo yo x y then
    match op with
    | .eql => (aeq P 20 t x y).map .bool
    | .neq => (aeq P 20 t x y).map fun b => .bool (!b)
    | _ => none
  else none

def abin (P : Program) (op : BinOp) (t : TypeId) (xo yo : Operand) (x y : Value) : Option Value :=
  match x, y with
  | .int k a, .int k' b => aint op k a k' b
  | .string a, .string b => astr op a.data.toList b.data.toList
  | x, y => abinOther P op t xo yo x y

def aun (op : UnOp) (x : Value) : Option Value :=
  match op, x with
  | .neg, .int k n => some (.int k (wrapA k (-n)))
  | .xor, .int k n => some (.int k (ofLow k (pow2 k - 1 - lowOf k n)))
  | .not, .bool b => some (.bool !b)
  | _, _ => none

def bytesOfCells : List Value → Option (List UInt8)
  | [] => some []
  | .int .u8 n :: r => (bytesOfCells r).map (UInt8.ofNat n.toNat :: ·)
  | _ => none

def cellsOfBytes (l : List UInt8) : List Value := l.map fun c => .int .u8 c.toNat

def toBytesA (P : Program) (s : St) (e : TypeId) (l : List UInt8) : Option (Value × St) :=
  match P.underlying e, sizeT P e with
  | some (.int .u8), some 1 => bif Nat.ble l.length 1099511627776 then newSlice s e (cellsOfBytes l) true l.length l.length else none
  | _, _ => none

def sameBytesA (P : Program) (s : St) (src dst e : TypeId) (a : Addr) (l c : Nat) : Option (Value × St) :=
  match P.underlying e, s.get a.block with
  | some (.int .u8), some (.cells _ _ _) => bif Nat.beq src dst && !(Nat.beq c 0) then some (.slice (some a) l c, s) else none
  | _, _ => none

def toStringA (P : Program) (s : St) (e : TypeId) (a : Option Addr) (l : Nat) : Option (Value × St) :=
  match P.underlying e with
  | some (.int .u8) =>
    match a with
    | none => some (.string .empty, s)
    | some a => match cellsAt s a l with
      | some cs => match bytesOfCells cs with
        | some b => some (.string ⟨⟨b⟩⟩, s)
        | none => none
      | none => none
  | _ => none

def aconvert (P : Program) (s : St) (src dst : TypeId) (x : Value) : Option (Value × St) :=
  match x with
  | .int _ n => match P.underlying src, P.underlying dst with
    | some _, some (.int k) => some (.int k (wrapA k n), s)
    | some _, some .string => some (.string (Utf8.encode n), s)
    | _, _ => none
  | .string b => match P.underlying src, P.underlying dst with
    | some _, some .string => some (.string b, s)
    | some _, some (.slice e) => toBytesA P s e b.data.toList
    | _, _ => none
  | .slice a l c => match P.underlying src, P.underlying dst with
    | some (.slice _), some (.slice e) => match a with
      | some a => sameBytesA P s src dst e a l c
      | none => none
    | some (.slice e), some .string => toStringA P s e a l
    | _, _ => none
  | _ => none

/-- A bound of a slice expression. -/
def abnd (v : Option Value) (dflt top : Nat) : Option Nat :=
  match v with
  | none => some dflt
  | some (.int _ (.ofNat n)) => bif Nat.ble n top then some n else none
  | some _ => none

def hiD (mx : Option Value) (len : Nat) : Nat :=
  match mx with
  | none => len
  | some _ => 0

/-- The bounds of a slice expression. -/
def abounds (len cap : Nat) (lo hi mx : Option Value) : Option (Nat × Nat × Nat) :=
  match abnd mx cap cap with
  | some m => match abnd hi (hiD mx len) m, mx, hi with
    | some _, some _, none => none
    | some h, _, _ => match abnd lo 0 h with
      | some l => some (l, h, m)
      | none => none
    | none, _, _ => none
  | none => none

/-- May a slice of a block be cut at its begin by elements of that many cells? -/
def mayCut (P : Program) (s : St) (b : Nat) (sz : Nat) : Bool :=
  match s.get b with
  | some (.cells _ _ false) => true
  | some (.cells _ e true) | some (.ro _ e) => match sizeT P e with
    | some n => Nat.beq n sz
    | none => false
  | _ => false

def asliceSlice (P : Program) (s : St) (elem : TypeId) (a : Option Addr) (len cap : Nat) (lo hi mx : Option Value) : Option Value :=
  match abounds len cap lo hi mx, sizeT P elem with
  | some (l, h, m), some sz =>
    match a with
    | none => bif Nat.ble len cap then some (.slice none (h - l) (m - l)) else none
    | some a => bif (Nat.beq l 0 || mayCut P s a.block sz) && Nat.ble len cap then some (.slice (some (a.add (l * sz))) (h - l) (m - l)) else none
  | _, _ => none

def asliceArr (P : Program) (n : Nat) (elem : TypeId) (a : Addr) (lo hi mx : Option Value) : Option Value :=
  match abounds n n lo hi mx, sizeT P elem with
  | some (l, h, m), some sz => some (.slice (some (a.add (l * sz))) (h - l) (m - l))
  | _, _ => none

def aslice (P : Program) (s : St) (t : TypeId) (x : Value) (lo hi mx : Option Value) : Option Value :=
  match P.underlying t, x with
  | some (.array n elem), .pointer (some a) => asliceArr P n elem a lo hi mx
  | some (.pointer arr), .pointer (some a) =>
    match P.underlying arr with
    | some (.array n elem) => asliceArr P n elem a lo hi mx
    | _ => none
  | some .string, .string b =>
    match mx, abounds b.data.toList.length b.data.toList.length lo hi none with
    | none, some (l, h, _) => some (.string ⟨⟨(b.data.toList.drop l).take (h - l)⟩⟩)
    | _, _ => none
  | some (.slice elem), .slice a len cap => asliceSlice P s elem a len cap lo hi mx
  | _, _ => none

def aindexAddr (P : Program) (t : TypeId) (x ix : Value) : Option Value :=
  match P.underlying t, x, ix with
  | some (.array len elem), .pointer (some a), .int _ (.ofNat i) =>
    bif Nat.blt i len then (sizeT P elem).map fun sz => .pointer (some (a.add (i * sz))) else none
  | some (.slice elem), .slice (some a) len _, .int _ (.ofNat i) =>
    bif Nat.blt i len then (sizeT P elem).map fun sz => .pointer (some (a.add (i * sz))) else none
  | _, _, _ => none

def aindex (P : Program) (t : TypeId) (x ix : Value) : Option Value :=
  match P.underlying t, x, ix with
  | some (.array len elem), .agg cs, .int _ (.ofNat i) =>
    bif Nat.blt i len then match sizeT P elem with
      | some sz => partT P elem cs (i * sz)
      | none => none
    else none
  | some .string, .string b, .int _ (.ofNat i) => (b.data.toList[i]?).map fun c => .int .u8 c.toNat
  | _, _, _ => none

def lenA : Value → Option Nat
  | .slice _ n _ => some n
  | .string b => some b.size
  | _ => none

/-- The cells of the first elements. -/
def firstA (s : St) (size n : Nat) : Value → Option (List Value)
  | .slice (some a) l _ => bif Nat.beq (n * size) 0 then some [] else bif Nat.ble n l then cellsAt s a (n * size) else none
  | .slice none _ _ => bif Nat.beq (n * size) 0 then some [] else none
  | .string b => bif Nat.beq size 1 then some (cellsOfBytes (b.data.toList.take n)) else none
  | _ => none

def rep (z : List Value) : Nat → List Value
  | 0 => []
  | n + 1 => z ++ rep z n

/-- Is what is appended made of so many noughts? -/
def zerosA (P : Program) (argTypes : Array TypeId) : Option Bool :=
  match argTypes[1]? with
  | some xT => match P.underlying xT with
    | some (.int _) => some true
    | some _ => some false
    | none => none
  | none => some false

def lensA (s : St) (size : Nat) (x : Value) : Option (Nat × List Value) :=
  match lenA x with
  | some n => match firstA s size n x with
    | some l => some (n, l)
    | none => none
  | none => none

/-- What is appended: how many elements, and their cells. -/
def addedA (P : Program) (s : St) (argTypes : Array TypeId) (size : Nat) (z : Value) (x : Value) : Option (Nat × List Value) :=
  match zerosA P argTypes with
  | some true =>
    match x with
    | .int _ (.ofNat l) => some (l, rep z.cells.toList l)
    | _ => none
  | some false => lensA s size x
  | none => none

def appendIn (s : St) (size : Nat) (base : Option Addr) (sLen sCap need : Nat) (new : List Value) : Option (Value × St) :=
  match base with
  | some a => match storeCellsA s (a.add (sLen * size)) new with
    | some s => some (.slice base need sCap, s)
    | none => none
  | none => some (.slice none need sCap, s)

/-- What becomes of the old block where a new one may be made: it is not used any more if it may be the same. -/
def leaveOld (s : St) (elem : TypeId) (size : Nat) (base : Option Addr) (sCap : Nat) : Option St :=
  match base with
  | none => some s
  | some a => match s.get a.block with
    | some (.cells cs e true) => bif Nat.beq e elem then (bif Nat.beq (a.off + sCap * size) cs.length then some (s.put a.block .dead) else some s) else none
    | some (.cells _ _ false) => some s
    | some (.ro _ _) => some s
    | _ => none

/-- append: into the room that is known; else into a new block. -/
def aappend (P : Program) (s : St) (argTypes : Array TypeId) (args : List Value) : Option (Value × St) :=
  match argTypes[0]?, args with
  | some sT, [.slice base sLen sCap, x] =>
    match P.underlying sT with
    | some (.slice elem) =>
      match P.info? elem, zeroT P elem with
      | some info, some z =>
        match addedA P s argTypes info.size z x with
        | some (n, new) =>
          bif Nat.ble ((sLen + n) * (info.bytes + 1)) 68719476736 && new.all oneCell && Nat.beq new.length (n * info.size) && Nat.beq z.cells.toList.length info.size then
            bif Nat.ble (sLen + n) sCap then appendIn s info.size base sLen sCap (sLen + n) new
            else match firstA s info.size sLen (.slice base sLen sCap), leaveOld s elem info.size base sCap with
              | some old, some s => bif old.all oneCell then newSlice s elem (old ++ new) true (sLen + n) (sLen + n) else none
              | _, _ => none
          else none
        | none => none
      | _, _ => none
    | _ => none
  | _, _ => none

def acopy (P : Program) (s : St) (argTypes : Array TypeId) (args : List Value) : Option (Value × St) :=
  match argTypes[0]?, args with
  | some dT, [.slice base dLen _, src] =>
    match P.underlying dT with
    | some (.slice elem) =>
      match sizeT P elem, lenA src with
      | some size, some sl =>
        match firstA s size (bif Nat.ble sl dLen then sl else dLen) src with
        | some new =>
          bif new.all oneCell then
          match base with
          | some a => match storeCellsA s a new with
            | some s => some (.int .i64 (.ofNat (bif Nat.ble sl dLen then sl else dLen)), s)
            | none => none
          | none => some (.int .i64 (.ofNat (bif Nat.ble sl dLen then sl else dLen)), s)
          else none
        | none => none
      | _, _ => none
    | _ => none
  | _, _ => none

def lenOfA (P : Program) (s : St) (t : TypeId) (x : Value) : Option Nat :=
  match P.underlying t, x with
  | some .string, .string b => some b.data.toList.length
  | some (.array n _), _ => some n
  | some (.slice _), .slice _ n _ => some n
  | some (.map _ _), .map none => some 0
  | some (.map _ _), .map (some r) => match s.get r with
    | some (.obj (.map es _)) => some es.toList.length
    | _ => none
  | _, _ => none

def capOfA (P : Program) (s : St) (t : TypeId) (x : Value) : Option Nat :=
  match P.underlying t, x with
  | some (.slice _), .slice none _ c => some c
  | some (.slice _), .slice (some a) _ c => match s.get a.block with
    | some (.cells _ _ false) => some c
    | _ => none
  | _, _ => none

def extreme (isMax : Bool) : Value → List Value → Option Value
  | .int k x, [] => some (.int k x)
  | .int k x, .int _ y :: r => extreme isMax (.int k (bif (match isMax with | true => intLt x y | false => intLt y x) then y else x)) r
  | _, _ => none

def extremeA (isMax : Bool) : List Value → Option Value
  | [] => none
  | x :: r => extreme isMax x r

def withSt (s : St) : Option Value → Option (Value × St)
  | some v => some (v, s)
  | none => none

def intOfNat? (s : St) : Option Nat → Option (Value × St)
  | some n => some (.int .i64 (.ofNat n), s)
  | none => none

def abuiltin (P : Program) (s : St) (b : Builtin) (argTypes : Array TypeId) (args : List Value) : Option (Value × St) :=
  match b with
  | .append => aappend P s argTypes args
  | .copy => acopy P s argTypes args
  | .len => match argTypes[0]?, args with
    | some t, [x] => intOfNat? s (lenOfA P s t x)
    | _, _ => none
  | .cap => match argTypes[0]?, args with
    | some t, [x] => intOfNat? s (capOfA P s t x)
    | _, _ => none
  | .min => withSt s (extremeA false args)
  | .max => withSt s (extremeA true args)
  | _ => none

def keyEq (D : TypeDesc) (x y : Value) : Option Bool :=
  match D, x, y with
  | .int _, .int k a, .int k' b => bif kindEq k k' then some (intEq a b) else none
  | .string, .string a, .string b => some (bytesEq a.data.toList b.data.toList)
  | .bool, .bool a, .bool b => some (a == b)
  | _, _, _ => none

def findA (D : TypeDesc) (k : Value) : List MapEntry → Nat → Option (Option (Nat × Value))
  | [], _ => some none
  | e :: es, i => match keyEq D k e.key with
    | some true => some (some (i, e.val))
    | some false => findA D k es (i + 1)
    | none => none

/-- The description of a key's type, if it is a plain one. -/
def plainKey (P : Program) (t : TypeId) : Option TypeDesc :=
  match P.underlying t with
  | some (.int k) => some (.int k)
  | some .string => some .string
  | some .bool => some .bool
  | _ => none

def entriesA (s : St) : Value → Option (List MapEntry)
  | .map none => some []
  | .map (some r) => match s.get r with
    | some (.obj (.map es _)) => some es.toList
    | _ => none
  | _ => none

def okTuple (ok : Bool) (v : Value) (b : Bool) : Value :=
  match ok with
  | true => .tuple #[v, .bool b]
  | false => v

def alookup (P : Program) (s : St) (t : TypeId) (x k : Value) (ok : Bool) : Option Value :=
  match P.underlying t with
  | some (.map kT eT) => match plainKey P kT, entriesA s x with
    | some D, some es => match findA D k es 0 with
      | some (some (_, v)) => some (okTuple ok v true)
      | some none => match zeroT P eT with
        | some z => some (okTuple ok z false)
        | none => none
      | none => none
    | _, _ => none
  | _ => none

def aupdate (P : Program) (s : St) (t : TypeId) (m k v : Value) : Option St :=
  match P.underlying t, m with
  | some (.map kT _), .map (some r) => match plainKey P kT, s.get r with
    | some D, some (.obj (.map es clock)) => match findA D k es.toList 0 with
      | some (some (i, _)) => some (s.put r (.obj (.map (es.modify i fun e => { e with key := k, val := v }) clock)))
      | some none => match D, k with
        | .int _, .int _ _ | .string, .string _ | .bool, .bool _ => some (s.put r (.obj (.map (es.push { key := k, val := v, born := clock }) (clock + 1))))
        | _, _ => none
      | none => none
    | _, _ => none
  | _, _ => none

def anext (s : St) (it : Value) (isString : Bool) : Option (Value × St) :=
  match it, isString with
  | .pointer (some ⟨r, 0, none⟩), true => match s.get r with
    | some (.obj (.stringIter b pos)) =>
      bif Nat.blt pos b.data.toList.length then
        some (.tuple #[.bool true, .int .i64 (.ofNat pos), .int .i32 (.ofNat (Utf8.decode b pos).1)], s.put r (.obj (.stringIter b (pos + (Utf8.decode b pos).2))))
      else some (.tuple #[.bool false], s)
    | _ => none
  | _, _ => none

def failsA (P : Program) (asserted : TypeId) (ok : Bool) : Option Value :=
  match ok with
  | true => match zeroT P asserted with
    | some z => some (.tuple #[z, .bool false])
    | none => none
  | false => none

def atypeAssert (P : Program) (x : Value) (asserted : TypeId) (ok : Bool) : Option Value :=
  match P.underlying asserted, x with
  | some (.interface _), .nilIface => failsA P asserted ok
  | some (.interface want), .iface t v => match P.info? t with
    | some i => match Instr.missingMethod want i.methods with
      | none => some (okTuple ok (.iface t v) true)
      | some _ => failsA P asserted ok
    | none => none
  | some _, .nilIface => failsA P asserted ok
  | some _, .iface t v => bif Nat.beq t asserted then some (okTuple ok v true) else failsA P asserted ok
  | _, _ => none

/-- The method of an interface value whose row has no path. -/
def amethod (P : Program) (s : St) (t : TypeId) (v : Value) (name : String) : Option (FuncId × Value) :=
  match P.info? t with
  | some i => match i.methods.find? (·.name == name) with
    | some m => match m.path.toList, m.func with
      | [], some (f, ptr) =>
        match P.underlying t, ptr, v with
        | some (.pointer _), true, v => some (f, v)
        | some (.pointer elem), false, .pointer (some a) => (loadT P s elem a).map (f, ·)
        | some (.pointer _), _, _ => none
        | some _, true, _ => none
        | some _, false, v => some (f, v)
        | none, _, _ => none
      | _, _ => none
    | none => none
  | none => none

def acall (P : Program) (s : St) (tm : List Value) (c : Call) : Option ARes :=
  let args := c.args.toList.map (ev tm)
  let method (recv : Value) (name : String) (args : List Value) : Option ARes :=
    match recv with
    | .iface t v => (amethod P s t v name).map fun (f, r) => .call f (r :: args) s
    | _ => none
  match c.callee with
  | .builtin b => (abuiltin P s b c.argTypes args).map fun (v, s) => .val v s
  | .invoke recv name => method (ev tm recv) name args
  | .value f => match ev tm f with
    | .func (.func g) first captured => some (.call g (first.toList ++ args ++ captured.toList) s)
    | .func (.yield l) first _ => some (.round l (first.toList ++ args) s)
    | .func (.method name) first _ => match first.toList ++ args with
      | recv :: rest => method recv name rest
      | [] => none
    | _ => none

def rv (s : St) : Option Value → Option ARes
  | some v => some (.val v s)
  | none => none
def rvs : Option (Value × St) → Option ARes
  | some (v, s) => some (.val v s)
  | none => none
def ru : Option St → Option ARes
  | some s => some (.val undef s)
  | none => none

def opPick (s : St) (c a b : Value) : Option ARes :=
  match c with
  | .bool true => some (.val a s)
  | .bool false => some (.val b s)
  | _ => none

def opAlloc (P : Program) (s : St) (elem : TypeId) : Option ARes :=
  match zeroT P elem with
  | some z => newVar P s elem z.cells.toList
  | none => none

def fillA (place : Nat → Option (Nat × Nat)) (cells : List Value) : List (Nat × Value) → Option (List Value)
  | [] => some cells
  | (i, v) :: rest =>
    match place i with
    | some (off, size) =>
      let l := v.cells.toList
      bif Nat.beq l.length size && Nat.ble (off + size) cells.length && l.all oneCell then fillA place (splice cells off l) rest else none
    | none => none

def partsA (tm : List Value) (parts : Array (Nat × Operand)) : List (Nat × Value) := parts.toList.map fun (i, x) => (i, ev tm x)

def sizedFields (P : Program) (fields : Array Field) : Bool := fields.toList.all fun f => (sizeT P f.type).isSome
def placeF (P : Program) (fields : Array Field) (i : Nat) : Option (Nat × Nat) :=
  match fields.toList[i]? with
  | some f => match sizeT P f.type with
    | some n => some (f.offset, n)
    | none => none
  | none => none
def placeE (n i : Nat) : Option (Nat × Nat) := some (i * n, n)

def opBuild (P : Program) (s : St) (tm : List Value) (t : TypeId) (parts : Array (Nat × Operand)) : Option ARes :=
  match zeroT P t, P.underlying t with
  | some z, some (.struct fields) =>
    bif sizedFields P fields then
    match fillA (placeF P fields) z.cells.toList (partsA tm parts) with
    | some cs => some (.val (.agg ⟨cs⟩) s)
    | none => none
    else none
  | some z, some (.array _ elem) => match sizeT P elem with
    | some n => match fillA (placeE n) z.cells.toList (partsA tm parts) with
      | some cs => some (.val (.agg ⟨cs⟩) s)
      | none => none
    | none => none
  | _, _ => none

def opBuildSlice (P : Program) (s : St) (tm : List Value) (t : TypeId) (len : Nat) (parts : Array (Nat × Operand)) : Option ARes :=
  match P.underlying t with
  | some (.slice elem) => match sizeT P elem, zeroT P elem with
    | some n, some z =>
      bif Nat.ble (len * n) 1048576 && Nat.beq z.cells.toList.length n then
      match fillA (placeE n) (rep z.cells.toList len) (partsA tm parts) with
      | some cells => rvs (newSlice s elem cells false len len)
      | none => none
      else none
    | _, _ => none
  | _ => none

def opLoad (P : Program) (s : St) (t : TypeId) : Value → Option ARes
  | .pointer (some a) => rv s (loadT P s t a)
  | _ => none
def opStore (P : Program) (s : St) (t : TypeId) (x : Value) : Value → Option ARes
  | .pointer (some a) => ru (storeT P s t a x)
  | _ => none
def opNilCheck (s : St) : Value → Option ARes
  | .pointer (some a) => some (.val (.pointer (some a)) s)
  | .iface t v => some (.val (.iface t v) s)
  | .func (.func f) x y => some (.val (.func (.func f) x y) s)
  | .func (.yield f) x y => some (.val (.func (.yield f) x y) s)
  | _ => none
def opToArray (P : Program) (s : St) (arr : TypeId) (x : Value) : Option ARes :=
  match P.underlying arr, x with
  | some (.array n _), .slice a len _ => bif Nat.ble n len && !(Nat.beq n 0) then some (.val (.pointer a) s) else none
  | _, _ => none
def opIface (P : Program) (s : St) (t : TypeId) (x : Value) : Option ARes :=
  match P.underlying t with
  | some (.interface _) => none
  | some _ => some (.val (.iface t x) s)
  | none => none
def opMakeMap (s : St) : Option Value → Option ARes
  | none | some (.int _ _) => match newObjA s (.map #[] 0) with
    | some (id, s) => some (.val (.map (some id)) s)
    | none => none
  | _ => none
def opMakeSlice (P : Program) (s : St) (t : TypeId) (l c : Value) : Option ARes :=
  match P.underlying t, l, c with
  | some (.slice elem), .int _ (.ofNat l), .int _ (.ofNat c) => match zeroT P elem, P.info? elem with
    | some z, some i =>
      bif Nat.ble l c && Nat.ble (c * (i.bytes + 1)) 1099511627776 && Nat.beq z.cells.toList.length i.size then rvs (newSlice s elem (rep z.cells.toList c) false l c) else none
    | _, _ => none
  | _, _, _ => none
def opFieldAddr (P : Program) (s : St) (t : TypeId) (f : Nat) (x : Value) : Option ARes :=
  match P.underlying t, x with
  | some (.struct fields), .pointer (some a) => match fields[f]? with
    | some fd => match sizeT P fd.type with
      | some (_ + 1) => some (.val (.pointer (some (a.add fd.offset))) s)
      | _ => none
    | none => none
  | _, _ => none
def opField (P : Program) (s : St) (t : TypeId) (f : Nat) (x : Value) : Option ARes :=
  match P.underlying t, x with
  | some (.struct fields), .agg cs => match fields[f]? with
    | some fd => rv s (partT P fd.type cs fd.offset)
    | none => none
  | _, _ => none
def opRange (P : Program) (s : St) (t : TypeId) (x : Value) : Option ARes :=
  match P.underlying t, x with
  | some .string, .string b => match newObjA s (.stringIter b 0) with
    | some (id, s) => some (.val (.pointer (some ⟨id, 0, none⟩)) s)
    | none => none
  | _, _ => none
def opExtract (s : St) (ix : Nat) : Value → Option ARes
  | .tuple xs => rv s (xs.toList[ix]?)
  | _ => none

def opMakeFunc (s : St) (fn : Fn) (first captured : List Value) : Option ARes :=
  match fn with
  | .yield _ => none
  | fn => some (.val (.func fn ⟨first⟩ ⟨captured⟩) s)
def opMakeMapT (P : Program) (s : St) (tm : List Value) (t : TypeId) (r : Option Operand) : Option ARes :=
  match r with
  | none => opMakeMap s none
  | some x => match P.underlying t with
    | some (.map _ _) => opMakeMap s (some (ev tm x))
    | _ => none

def opDecl (P : Program) (s : St) (tm : List Value) (op : Op) : Option ARes :=
  match op with
  | .pick c a b => opPick s (ev tm c) (ev tm a) (ev tm b)
  | .alloc elem => opAlloc P s elem
  | .box elem x => newVar P s elem (ev tm x).cells.toList
  | .build t parts => opBuild P s tm t parts
  | .buildSlice t len parts => opBuildSlice P s tm t len parts
  | .nilCheck x => opNilCheck s (ev tm x)
  | .unOp op _ x => rv s (aun op (ev tm x))
  | .convert src dst x => rvs (aconvert P s src dst (ev tm x))
  | .sliceToArrayPointer arr x => opToArray P s arr (ev tm x)
  | .makeInterface t x => opIface P s t (ev tm x)
  | .makeFunc fn first captured => opMakeFunc s fn (first.toList.map (ev tm)) (captured.toList.map (ev tm))
  | .makeMap t r => opMakeMapT P s tm t r
  | .makeSlice t l c => opMakeSlice P s t (ev tm l) (ev tm c)
  | .slice t x lo hi mx => rv s (aslice P s t (ev tm x) (lo.map (ev tm)) (hi.map (ev tm)) (mx.map (ev tm)))
  | .lookup t x ix ok => rv s (alookup P s t (ev tm x) (ev tm ix) ok)
  | .mapUpdate t m k x | .insert t m k x => ru (aupdate P s t (ev tm m) (ev tm k) (ev tm x))
  | .range t x => opRange P s t (ev tm x)
  | .next it isString => rvs (anext s (ev tm it) isString)
  | .typeAssert x _ asserted ok => rv s (atypeAssert P (ev tm x) asserted ok)
  | _ => none

def aop (P : Program) (s : St) (tm : List Value) (o : Oper) : Option ARes :=
  match o.op with
  | .move x | .assign x => some (.val (ev tm x) s)
  | .load t a => opLoad P s t (ev tm a)
  | .store t a x => opStore P s t (ev tm x) (ev tm a)
  | .binOp op t x y _ => rv s (abin P op t x y (ev tm x) (ev tm y))
  | .fieldAddr t x f => opFieldAddr P s t f (ev tm x)
  | .field t x f => opField P s t f (ev tm x)
  | .indexAddr t x ix => rv s (aindexAddr P t (ev tm x) (ev tm ix))
  | .index t x ix => rv s (aindex P t (ev tm x) (ev tm ix))
  | .extract t ix => opExtract s ix (ev tm t)
  | .call c => acall P s tm c
  | op => opDecl P s tm op

/-- What stands for functions of the library: by name. -/
abbrev Hooks := FuncId → Option (List Value → St → Option (Value × St))

abbrev CodeF := Code → List Value → St → Option Out

def resultA (P : Program) (s : St) (tm : List Value) : ResultVar → Option Value
  | .tmp t => some (tm.getD t undef)
  | .cell a t => match tm.getD a undef with
    | .pointer (some a) => loadT P s t a
    | _ => none

def resListA (P : Program) (s : St) (tm : List Value) : List ResultVar → Option (List Value)
  | [] => some []
  | r :: rs => match resultA P s tm r with
    | some v => match resListA P s tm rs with
      | some vs => some (v :: vs)
      | none => none
    | none => none

def oneOrTuple : List Value → Value
  | [v] => v
  | vs => .tuple ⟨vs⟩

def resultsA (P : Program) (s : St) (fn : Func) (tm : List Value) : Option (Value × St) :=
  match resListA P s tm fn.results.toList with
  | some vs => some (oneOrTuple vs, s)
  | none => none

/-- What a call hands back, by what its body came to. -/
def leaveA (P : Program) (fn : Func) : Option Out → Option (Value × St)
  | some ⟨.normal, tm, s⟩ => resultsA P s fn tm
  | some ⟨.ret, tm, s⟩ => resultsA P s fn tm
  | _ => none

def callA (P : Program) (H : Hooks) (rc : CodeF) (f : FuncId) (args : List Value) (s : St) : Option (Value × St) :=
  match P.funcs[f]? with
  | some fn =>
    match H f with
    | some h => h args s
    | none =>
    match fn.body with
    | some c => leaveA P fn (rc c (args ++ List.replicate (fn.ntmps - args.length) undef) s)
    | none => none
  | none => none

def Ex.jump : Ex → Option Code
  | .normal => none
  | .ret => some .ret
  | .exit id => some (.exit id)
  | .goto l => some (.goto l)

/-- No range over a function within. -/
def noRange : Code → Bool
  | .seq a b => noRange a && noRange b
  | .cond _ a b => noRange a && noRange b
  | .block _ b => noRange b
  | .loop b => noRange b
  | .scope _ => false
  | .rangeFunc .. => false
  | _ => true

/-- A round's body, behind its assignment. -/
def bodyA (rc : CodeF) (l : Nat) (body : Code) : Option Out → Option Out
  | some ⟨.normal, tm, s⟩ => match s.get l with
    | some (.obj (.loop r)) => match r.state with
      | .ready => rc body tm (s.put l (.obj (.loop { r with state := .busy })))
      | _ => none
    | _ => none
  | _ => none
def endRoundA (l : Nat) : Option Out → Option (Value × St)
  | some ⟨x, _, s⟩ => match s.get l with
    | some (.obj (.loop r)) => some (.bool x.jump.isNone, s.put l (.obj (.loop { r with state := (if x.jump.isNone then .ready else .done), pending := x.jump })))
    | _ => none
  | none => none
def roundTmps : List (Tmp × Value) → List Value → List Value
  | [], tm => tm
  | (t, a) :: r, tm => roundTmps r (tm.set t a)
def roundA (rc : CodeF) (l : Nat) (args : List Value) (s : St) : Option (Value × St) :=
  match s.get l with
  | some (.obj (.loop r)) =>
    bif Nat.beq args.length r.params.toList.length && noRange r.assign && noRange r.body then
      endRoundA l (bodyA rc l r.body (rc r.assign (roundTmps (r.params.toList.zip args) r.tmps.toList) s))
    else none
  | _ => none

/-- What an operation that was not wanted leaves. -/
def skipV : Value := .chan none

/-- Is an operation wanted? -/
def wantedA (ops : Array Oper) (tm : List Value) (o : Oper) : Option Bool :=
  match o.guard with
  | none => some true
  | some (j, want) => match ops[j]? with
    | some oj => match oj.dst with
      | some d => match tm[d]? with
        | some (.bool b) => some (match b, want with | true, true => true | false, false => true | _, _ => false)
        | some (.chan none) => some false
        | _ => none
      | none => none
    | none => none

def execA (P : Program) (H : Hooks) (rc : CodeF) : Option ARes → Option (Value × St)
  | some (.val v s) => some (v, s)
  | some (.call f args s) => callA P H rc f args s
  | some (.round l args s) => roundA rc l args s
  | none => none

def thenOps (dst : Option Tmp) (tm : List Value) (k : List Value → St → Option (List Value × St)) : Option (Value × St) → Option (List Value × St)
  | some (v, s) => k (put tm dst v) s
  | none => none

def runOps (P : Program) (H : Hooks) (rc : CodeF) (ops : Array Oper) : List Oper → List Value → St → Option (List Value × St)
  | [], tm, s => some (tm, s)
  | o :: rest, tm, s =>
    match wantedA ops tm o with
    | some true => thenOps o.dst tm (runOps P H rc ops rest) (execA P H rc (aop P s tm o))
    | some false => runOps P H rc ops rest (put tm o.dst skipV) s
    | none => none

/-- What an operation of a region that draws its order is: it looks at temporaries alone; or reads one block; or may look at all; and whether it is no call. -/
inductive Cls where
  | reg | read (b : Nat) | write (b : Nat) | any

def addrCls (read : Bool) : Value → Cls
  | .pointer (some a) => match read with
    | true => .read a.block
    | false => .write a.block
  | _ => .any

def sliceCls : Value → Cls
  | .slice (some a) _ _ => .read a.block
  | _ => .reg

def opCls (tm : List Value) : Op → Cls
  | .move _ | .assign _ | .pick .. | .build .. | .nilCheck _ | .binOp .. | .unOp .. | .sliceToArrayPointer .. | .makeInterface .. | .makeFunc .. | .fieldAddr .. | .field .. | .indexAddr .. | .index .. | .typeAssert .. | .extract .. => .reg
  | .load _ a => addrCls true (ev tm a)
  | .slice _ x _ _ _ => sliceCls (ev tm x)
  | .store _ a _ => addrCls false (ev tm a)
  | .call ⟨.builtin .len, args, _⟩ => match args.toList.map (ev tm) with
    | [.map _] => .any
    | _ => .reg
  | .call ⟨.builtin .min, _, _⟩ | .call ⟨.builtin .max, _, _⟩ => .reg
  | _ => .any

/-- What an operation did: its place; a bound, so that of the blocks that were there only those from it on may have been turned; the one block that it wrote, if it is known; what it read. -/
inductive Did where
  | reg
  | read (b : Nat)
  | kept
  | write (b : Nat)
  | turn (lo next : Nat)

/-- May these two be in any order? The first is the one with the lesser place. -/
def apart : Did → Did → Bool
  | .reg, _ | _, .reg => true
  | .read _, .read _ | .read _, .kept | .kept, .read _ | .kept, .kept => true
  | .read b, .write c | .write c, .read b => !(Nat.beq b c)
  | .read b, .turn lo next | .turn lo next, .read b => Nat.blt b lo && Nat.blt b next
  | _, _ => false

def didOf (s s' : St) : Cls → Did
  | .reg => .reg
  | .read b => .read b
  | .write b => .write b
  | .any => bif Nat.beq s'.next s.next && Nat.ble s.next s'.lo then .kept else .turn s'.lo s.next

def apartAll (mask : Nat) (f : Did) : List (Nat × Did) → Bool
  | [] => true
  | (i, g) :: rest => (Nat.testBit mask i || apart g f) && apartAll mask f rest

/-- The state behind an operation: the old one where nothing was turned. -/
def afterOp (s s' : St) : Did → St
  | .reg | .read _ | .kept => s
  | .write _ | .turn _ _ => { heap := s'.heap, next := s'.next, lo := Nat.min s.lo s'.lo }

/-- May the operation at i look at the temporary t? What writes it is either behind it or it is behind that. -/
def looksGo (i m : Nat) (t : Tmp) : Nat → List (Option Tmp) → List Nat → Bool
  | _, [], _ => true
  | k, some d :: r, ms => (!(Nat.beq d t) || (bif Nat.blt k i then Nat.testBit m k else bif Nat.blt i k then Nat.testBit (ms.headD 0) i else true)) && looksGo i m t (k + 1) r ms.tail
  | k, none :: r, ms => looksGo i m t (k + 1) r ms.tail

/-- The temporaries that an operation looks at, its guard's one among them. -/
def looksOk (dsts : List (Option Tmp)) (ms : List Nat) (i m : Nat) (guarded : Option Tmp) (xs : List Operand) : Bool :=
  (match guarded with | some t => looksGo i m t 0 dsts ms | none => true) && xs.all fun
    | .tmp t => looksGo i m t 0 dsts ms
    | _ => true

/-- The places of operations that each operation is behind. -/
def befA (acc : List Nat) : List Oper → List Nat
  | [] => acc
  | o :: rest => befA (acc ++ [o.after.toList.foldl (fun s e => bif Region.binds .any e then Nat.lor (Nat.lor s (2 ^ e.on)) (acc.getD e.on 0) else s) 0]) rest

def distinct : List (Option Tmp) → Bool
  | [] => true
  | some d :: r => r.all (fun | some d' => !(Nat.beq d d') | none => true) && distinct r
  | none :: r => distinct r

def guardTmp (ops : Array Oper) (o : Oper) : Option Tmp :=
  match o.guard with
  | none => none
  | some (j, _) => match ops[j]? with
    | some oj => oj.dst
    | none => none

def drawOk (ops : Array Oper) (dsts : List (Option Tmp)) (mall : List Nat) : Nat → List Oper → List Nat → Bool
  | _, [], _ => true
  | i, o :: rest, m :: ms => looksOk dsts mall i m (guardTmp ops o) o.op.operands.toList && Nat.blt m (2 ^ i) && drawOk ops dsts mall (i + 1) rest ms
  | _, _ :: _, [] => false

def runDraw (P : Program) (H : Hooks) (rc : CodeF) (ops : Array Oper) : Nat → List Oper → List Nat → List (Nat × Did) → List Value → St → Option (List Value × St)
  | _, [], _, _, tm, s => some (tm, s)
  | i, o :: rest, m :: ms, done, tm, s =>
    match wantedA ops tm o with
    | some true =>
      match execA P H rc (aop P { heap := s.heap, next := s.next, lo := s.next } tm o) with
      | some (v, s') =>
        bif apartAll m (didOf s s' (opCls tm o.op)) done then runDraw P H rc ops (i + 1) rest ms ((i, didOf s s' (opCls tm o.op)) :: done) (put tm o.dst v) (afterOp s s' (didOf s s' (opCls tm o.op))) else none
      | none => none
    | some false => runDraw P H rc ops (i + 1) rest ms done (put tm o.dst skipV) s
    | none => none
  | _, _ :: _, [], _, _, _ => none

def drawA (P : Program) (H : Hooks) (rc : CodeF) (ops : Array Oper) (tm : List Value) (s : St) : Option (List Value × St) :=
  bif distinct (ops.toList.map (·.dst)) && drawOk ops (ops.toList.map (·.dst)) (befA [] ops.toList) 0 ops.toList (befA [] ops.toList) then
    runDraw P H rc ops 0 ops.toList (befA [] ops.toList) [] tm s
  else none

def jumpOut (tm : List Value) (s : St) : Option Code → Option Out
  | none => some ⟨.normal, tm, s⟩
  | some .ret => some ⟨.ret, tm, s⟩
  | some (.exit id) => some ⟨.exit id, tm, s⟩
  | some (.goto l) => some ⟨.goto l, tm, s⟩
  | _ => none

def seqA (rc : CodeF) (b : Code) : Option Out → Option Out
  | some ⟨.normal, tm, s⟩ => rc b tm s
  | r => r
def condA (rc : CodeF) (a b : Code) (tm : List Value) (s : St) : Value → Option Out
  | .bool true => rc a tm s
  | .bool false => rc b tm s
  | _ => none
def blockA (id : Nat) : Option Out → Option Out
  | some ⟨.exit id', tm, s⟩ => bif id'.beq id then some ⟨.normal, tm, s⟩ else some ⟨.exit id', tm, s⟩
  | r => r
def scopeA : Option Out → Option Out
  | some ⟨.goto _, _, _⟩ => none
  | r => r
def regionA : Option (List Value × St) → Option Out
  | some (tm, s) => some ⟨.normal, tm, s⟩
  | none => none
def endRangeA (tm : List Value) (l : Nat) : Option (Value × St) → Option Out
  | some (_, s) => match s.get l with
    | some (.obj (.loop r)) => match r.state with
      | .busy => none
      | _ => jumpOut tm (s.put l (.obj (.loop { r with state := .exhausted }))) r.pending
    | _ => none
  | none => none
def rangeA (P : Program) (H : Hooks) (rc : CodeF) (f : Value) (params : Array Tmp) (assign body : Code) (tm : List Value) (s : St) : Option Out :=
  match newObjA s (.loop { state := .ready, pending := none, fn := 0, tmps := ⟨tm⟩, params, assign, body, defers := 0 }) with
  | some (l, s) => match f with
    | .func (.func g) first captured => match H g with
      | none => endRangeA tm l (callA P H rc g (first.toList ++ [.func (.yield l) #[] #[]] ++ captured.toList) s)
      | some _ => none
    | _ => none
  | none => none
def stepCode (P : Program) (H : Hooks) (rc : CodeF) (c : Code) (tm : List Value) (s : St) : Option Out :=
  match c with
  | .skip | .label _ => some ⟨.normal, tm, s⟩
  | .region _ ops false => regionA (runOps P H rc ops ops.toList tm s)
  | .region _ ops true => regionA (drawA P H rc ops tm s)
  | .seq a b => seqA rc b (rc a tm s)
  | .cond c a b => condA rc a b tm s (ev tm c)
  | .block id body => blockA id (rc body tm s)
  | .loop body => seqA rc (.loop body) (rc body tm s)
  | .scope body => scopeA (rc body tm s)
  | .exit id => some ⟨.exit id, tm, s⟩
  | .goto l => some ⟨.goto l, tm, s⟩
  | .ret => some ⟨.ret, tm, s⟩
  | .rangeFunc f params assign body => rangeA P H rc (ev tm f) params assign body tm s
  | .refuse _ => none

def runCode (P : Program) (H : Hooks) : Nat → CodeF
  | 0, _, _, _ => none
  | n + 1, c, tm, s => stepCode P H (runCode P H n) c tm s

def start (P : Program) : St := ⟨.leaf, P.globals.size + 8, P.globals.size + 8⟩

def runFn (P : Program) (H : Hooks) (n : Nat) (f : FuncId) (args : List Value) (s : St) : Option (Value × St) := callA P H (runCode P H n) f args s

end
end Go.Mir

namespace Go.Mir
open Go

/-! ### The tree -/
theorem T.get_set {α : Type} (a : α) : ∀ (f : Nat) (t : T α) (n m : Nat), n + 1 < 2 ^ f → (T.set f t n a).get m = if m = n then some a else t.get m := by
  intro f
  induction f with
  | zero => intro t n m h; simp at h
  | succ f ih =>
    intro t n m h
    have hp : 2 ^ (f + 1) = 2 * 2 ^ f := by rw [Nat.pow_succ]; omega
    have leafget : ∀ k, (T.leaf : T α).get k = none := fun _ => rfl
    have key : ∀ (l r : T α) (v : Option α) , (bif n.beq 0 then T.node l (some a) r else bif (n % 2).beq 1 then T.node (T.set f l (n / 2) a) v r else T.node l v (T.set f r (n / 2 - 1) a)).get m
        = if m = n then some a else (T.node l v r).get m := by
      intro l r v
      rcases Nat.eq_zero_or_pos n with h0 | h0
      · subst h0
        simp only [cond_true, show (Nat.beq 0 0) = true from rfl]
        by_cases hm : m = 0
        · subst hm; simp [T.get_node]
        · have : m.beq 0 = false := by rw [Bool.eq_false_iff]; intro e; exact hm (Nat.eq_of_beq_eq_true e)
          simp [T.get_node, this, hm]
      · have hn : n.beq 0 = false := by rw [Bool.eq_false_iff]; intro e; exact absurd (Nat.eq_of_beq_eq_true e) (by omega)
        rw [hn]; simp only [cond_false]
        by_cases hodd : n % 2 = 1
        · have h1 : (n % 2).beq 1 = true := by rw [hodd]; rfl
          rw [h1]; simp only [cond_true]
          by_cases hm0 : m = 0
          · subst hm0; simp [T.get_node]; omega
          · have hmb : m.beq 0 = false := by rw [Bool.eq_false_iff]; intro e; exact hm0 (Nat.eq_of_beq_eq_true e)
            simp only [T.get_node, hmb, cond_false]
            by_cases hmo : m % 2 = 1
            · have h2 : (m % 2).beq 1 = true := by rw [hmo]; rfl
              rw [h2]; simp only [cond_true]
              rw [ih l (n / 2) (m / 2) (by omega)]
              by_cases e : m = n
              · subst e; simp
              · rw [if_neg (by omega), if_neg e]
            · have h2 : (m % 2).beq 1 = false := by rw [Bool.eq_false_iff]; intro e; exact hmo (Nat.eq_of_beq_eq_true e)
              rw [h2]; simp only [cond_false]
              rw [if_neg (by omega)]
        · have h1 : (n % 2).beq 1 = false := by rw [Bool.eq_false_iff]; intro e; exact hodd (Nat.eq_of_beq_eq_true e)
          rw [h1]; simp only [cond_false]
          by_cases hm0 : m = 0
          · subst hm0; simp [T.get_node]; omega
          · have hmb : m.beq 0 = false := by rw [Bool.eq_false_iff]; intro e; exact hm0 (Nat.eq_of_beq_eq_true e)
            simp only [T.get_node, hmb, cond_false]
            by_cases hmo : m % 2 = 1
            · have h2 : (m % 2).beq 1 = true := by rw [hmo]; rfl
              rw [h2]; simp only [cond_true]
              rw [if_neg (by omega)]
            · have h2 : (m % 2).beq 1 = false := by rw [Bool.eq_false_iff]; intro e; exact hmo (Nat.eq_of_beq_eq_true e)
              rw [h2]; simp only [cond_false]
              rw [ih r (n / 2 - 1) (m / 2 - 1) (by omega)]
              by_cases e : m = n
              · subst e; simp
              · rw [if_neg (by omega), if_neg e]
    cases t with
    | leaf =>
      have := key .leaf .leaf none
      have e : (T.node (T.leaf : T α) none .leaf).get m = none := by
        simp only [T.get_node, T.get_leaf]; cases m.beq 0 <;> cases (m % 2).beq 1 <;> rfl
      rw [T.set_leaf]; rw [e] at this; exact this
    | node l v r => rw [T.set_node]; exact key l r v

theorem St.get_put {s : St} {b : Nat} (x : ABlk) (h : b < 1073741824) (m : Nat) : (s.put b x).get m = if m = b then some x else s.get m := by
  unfold St.put St.get
  exact T.get_set x 40 s.heap b m (by omega)
theorem St.get_push {s : St} (x : ABlk) (h : s.next < 1073741824) (m : Nat) : (s.push x).get m = if m = s.next then some x else s.get m := by
  unfold St.push St.get
  exact T.get_set x 40 s.heap s.next m (by omega)
@[simp] theorem St.next_put (s : St) (b : Nat) (x : ABlk) : (s.put b x).next = s.next := rfl
@[simp] theorem St.next_push (s : St) (x : ABlk) : (s.push x).next = s.next + 1 := rfl

/-! ### Where abstract blocks lie -/
/-- A concrete block; the offset in it; how many cells the abstract block has; how many more elements there is room for behind them; an element's cells. -/
structure Place where
  blk : Nat
  off : Nat
  top : Nat
  extra : Nat
  esz : Nat

abbrev Ren := Nat → Option Place

inductive VRel (ρ : Ren) : Value → Value → Prop
  | any (v : Value) : VRel ρ undef v
  | skip : VRel ρ (.chan none) undef
  | bool (b : Bool) : VRel ρ (.bool b) (.bool b)
  | int (k : IntKind) (n : Int) : VRel ρ (.int k n) (.int k n)
  | string (s : ByteArray) : VRel ρ (.string s) (.string s)
  | ptrNil : VRel ρ (.pointer none) (.pointer none)
  | ptr (b o : Nat) (p : Place) (h : ρ b = some p) : VRel ρ (.pointer (some ⟨b, o, none⟩)) (.pointer (some ⟨p.blk, p.off + o, none⟩))
  | sliceNil (l c : Nat) : VRel ρ (.slice none l c) (.slice none l c)
  | slice0 (a a' : Addr) : VRel ρ (.slice (some a) 0 0) (.slice (some a') 0 0)
  | slice (b o l c c' : Nat) (p : Place) (h : ρ b = some p) (hc : c' = c ∨ (o + c * p.esz = p.top ∧ c ≤ c' ∧ c' ≤ c + p.extra)) :
      VRel ρ (.slice (some ⟨b, o, none⟩) l c) (.slice (some ⟨p.blk, p.off + o, none⟩) l c')
  | mapNil : VRel ρ (.map none) (.map none)
  | map (r : Nat) (p : Place) (h : ρ r = some p) : VRel ρ (.map (some r)) (.map (some p.blk))
  | func (fn : Fn) (f f' c c' : Array Value) (hy : ∀ l, fn ≠ .yield l) (hf : f.toList.length = f'.toList.length) (hc : c.toList.length = c'.toList.length)
      (h : ∀ (i : Nat) (x y : Value), f.toList[i]? = some x → f'.toList[i]? = some y → VRel ρ x y) (h' : ∀ (i : Nat) (x y : Value), c.toList[i]? = some x → c'.toList[i]? = some y → VRel ρ x y) :
      VRel ρ (.func fn f c) (.func fn f' c')
  | yield (l : Nat) (p : Place) (h : ρ l = some p) : VRel ρ (.func (.yield l) #[] #[]) (.func (.yield p.blk) #[] #[])
  | nilFunc : VRel ρ .nilFunc .nilFunc
  | iface (t : TypeId) (x y : Value) (h : VRel ρ x y) : VRel ρ (.iface t x) (.iface t y)
  | nilIface : VRel ρ .nilIface .nilIface
  | agg (cs ds : Array Value) (hl : cs.toList.length = ds.toList.length) (h : ∀ (i : Nat) (x y : Value), cs.toList[i]? = some x → ds.toList[i]? = some y → VRel ρ x y) : VRel ρ (.agg cs) (.agg ds)
  | tuple (cs ds : Array Value) (hl : cs.toList.length = ds.toList.length) (h : ∀ (i : Nat) (x y : Value), cs.toList[i]? = some x → ds.toList[i]? = some y → VRel ρ x y) : VRel ρ (.tuple cs) (.tuple ds)

def LRel (ρ : Ren) (xs ys : List Value) : Prop := xs.length = ys.length ∧ ∀ (i : Nat) (x y : Value), xs[i]? = some x → ys[i]? = some y → VRel ρ x y

def Ren.le (ρ ρ' : Ren) : Prop := ∀ b p, ρ b = some p → ρ' b = some p
theorem Ren.le_refl (ρ : Ren) : ρ.le ρ := fun _ _ h => h
theorem Ren.le_trans {ρ σ τ : Ren} (h : ρ.le σ) (k : σ.le τ) : ρ.le τ := fun b p e => k b p (h b p e)

theorem VRel.mono {ρ ρ' : Ren} (h : ρ.le ρ') {x y : Value} (v : VRel ρ x y) : VRel ρ' x y := by
  induction v with
  | any v => exact .any v
  | skip => exact .skip
  | bool b => exact .bool b
  | int k n => exact .int k n
  | string s => exact .string s
  | ptrNil => exact .ptrNil
  | ptr b o p hp => exact .ptr b o p (h _ _ hp)
  | sliceNil l c => exact .sliceNil l c
  | slice0 a a' => exact .slice0 a a'
  | slice b o l c c' p hp hc => exact .slice b o l c c' p (h _ _ hp) hc
  | mapNil => exact .mapNil
  | map r p hp => exact .map r p (h _ _ hp)
  | func fn f f' c c' hy hf hc _ _ ih ih' => exact .func fn f f' c c' hy hf hc ih ih'
  | yield l p hp => exact .yield l p (h _ _ hp)
  | nilFunc => exact .nilFunc
  | iface t x y _ ih => exact .iface t x y ih
  | nilIface => exact .nilIface
  | agg cs ds hl _ ih => exact .agg cs ds hl ih
  | tuple cs ds hl _ ih => exact .tuple cs ds hl ih

theorem LRel.mono {ρ ρ' : Ren} (h : ρ.le ρ') {x y : List Value} (v : LRel ρ x y) : LRel ρ' x y := ⟨v.1, fun i a b ha hb => (v.2 i a b ha hb).mono h⟩
theorem LRel.nil (ρ : Ren) : LRel ρ [] [] := ⟨rfl, fun i x y h => by simp at h⟩
theorem LRel.cons {ρ : Ren} {x y : Value} {xs ys : List Value} (h : VRel ρ x y) (t : LRel ρ xs ys) : LRel ρ (x :: xs) (y :: ys) := by
  refine ⟨by simp [t.1], fun i a b ha hb => ?_⟩
  cases i with
  | zero => simp at ha hb; subst ha; subst hb; exact h
  | succ i => exact t.2 i a b (by simpa using ha) (by simpa using hb)
theorem LRel.head {ρ : Ren} {x y : Value} {xs ys : List Value} (h : LRel ρ (x :: xs) (y :: ys)) : VRel ρ x y := h.2 0 x y rfl rfl
theorem LRel.tail {ρ : Ren} {x y : Value} {xs ys : List Value} (h : LRel ρ (x :: xs) (y :: ys)) : LRel ρ xs ys :=
  ⟨by simpa using h.1, fun i a b ha hb => h.2 (i + 1) a b (by simpa using ha) (by simpa using hb)⟩
theorem LRel.inv_cons {ρ : Ren} {x : Value} {xs ys : List Value} (h : LRel ρ (x :: xs) ys) : ∃ y ys', ys = y :: ys' ∧ VRel ρ x y ∧ LRel ρ xs ys' := by
  cases ys with
  | nil => have := h.1; simp at this
  | cons y ys' => exact ⟨y, ys', rfl, h.head, h.tail⟩
theorem LRel.inv_nil {ρ : Ren} {ys : List Value} (h : LRel ρ [] ys) : ys = [] := by
  have := h.1; exact List.eq_nil_of_length_eq_zero (by simpa using this.symm)
theorem LRel.append {ρ : Ren} {a b c d : List Value} (h : LRel ρ a b) (k : LRel ρ c d) : LRel ρ (a ++ c) (b ++ d) := by
  refine ⟨by simp [h.1, k.1], fun i x y hx hy => ?_⟩
  by_cases hi : i < a.length
  · rw [List.getElem?_append_left hi] at hx
    rw [List.getElem?_append_left (h.1 ▸ hi)] at hy
    exact h.2 i x y hx hy
  · rw [List.getElem?_append_right (by omega)] at hx
    rw [List.getElem?_append_right (by have := h.1; omega)] at hy
    rw [← h.1] at hy
    exact k.2 _ x y hx hy
theorem LRel.take {ρ : Ren} {a b : List Value} (h : LRel ρ a b) (n : Nat) : LRel ρ (a.take n) (b.take n) := by
  refine ⟨by simp [h.1], fun i x y hx hy => ?_⟩
  rw [List.getElem?_take] at hx hy
  split at hx
  · rw [if_pos (by assumption)] at hy; exact h.2 i x y hx hy
  · cases hx
theorem LRel.drop {ρ : Ren} {a b : List Value} (h : LRel ρ a b) (n : Nat) : LRel ρ (a.drop n) (b.drop n) := by
  refine ⟨by simp [h.1], fun i x y hx hy => ?_⟩
  rw [List.getElem?_drop] at hx hy
  exact h.2 _ x y hx hy
theorem LRel.get {ρ : Ren} {a b : List Value} (h : LRel ρ a b) {i : Nat} {x : Value} (hx : a[i]? = some x) : ∃ y, b[i]? = some y ∧ VRel ρ x y := by
  have hi : i < a.length := by
    rcases Nat.lt_or_ge i a.length with h | h
    · exact h
    · rw [List.getElem?_eq_none h] at hx; cases hx
  have hi' : i < b.length := h.1 ▸ hi
  exact ⟨b[i], List.getElem?_eq_getElem hi', h.2 i x _ hx (List.getElem?_eq_getElem hi')⟩
theorem LRel.set {ρ : Ren} {a b : List Value} (h : LRel ρ a b) (i : Nat) {x y : Value} (hv : VRel ρ x y) : LRel ρ (a.set i x) (b.set i y) := by
  refine ⟨by simp [h.1], fun j u v hu hv' => ?_⟩
  rw [List.getElem?_set] at hu hv'
  by_cases e : i = j
  · subst e
    simp only [if_true] at hu hv'
    split at hu
    · split at hv'
      · cases hu; cases hv'; exact hv
      · cases hv'
    · cases hu
  · rw [if_neg e] at hu hv'
    exact h.2 j u v hu hv'
theorem LRel.getD {ρ : Ren} {a b : List Value} (h : LRel ρ a b) (i : Nat) : VRel ρ (a.getD i undef) (b.getD i undef) := by
  rw [List.getD_eq_getElem?_getD, List.getD_eq_getElem?_getD]
  cases ha : a[i]? with
  | none => exact .any _
  | some x =>
    obtain ⟨y, hy, hv⟩ := h.get ha
    rw [hy]; exact hv
theorem LRel.replicate (ρ : Ren) {x y : Value} (h : VRel ρ x y) (n : Nat) : LRel ρ (List.replicate n x) (List.replicate n y) := by
  refine ⟨by simp, fun i a b ha hb => ?_⟩
  rw [List.getElem?_replicate] at ha hb
  split at ha
  · rw [if_pos (by assumption)] at hb; cases ha; cases hb; exact h
  · cases ha
theorem LRel.map {ρ : Ren} {α : Type} (l : List α) (f g : α → Value) (h : ∀ a, a ∈ l → VRel ρ (f a) (g a)) : LRel ρ (l.map f) (l.map g) := by
  induction l with
  | nil => exact .nil ρ
  | cons a l ih => exact .cons (h a (by simp)) (ih fun b hb => h b (by simp [hb]))

/-- A value without an address lies as it is. -/
theorem VRel.plain1 (ρ : Ren) {v : Value} (h : Mir.plain1 v = true) : VRel ρ v v := by
  cases v with
  | bool b => exact .bool b
  | int k n => exact .int k n
  | string s => exact .string s
  | pointer a => cases a with
    | none => exact .ptrNil
    | some a => cases h
  | slice a l c => cases a with
    | none => exact .sliceNil l c
    | some a => cases h
  | map r => cases r with
    | none => exact .mapNil
    | some r => cases h
  | nilFunc => exact .nilFunc
  | nilIface => exact .nilIface
  | _ => cases h
theorem LRel.plain (ρ : Ren) {l : List Value} (h : l.all Mir.plain1 = true) : LRel ρ l l := by
  refine ⟨rfl, fun i x y hx hy => ?_⟩
  rw [hx] at hy; cases hy
  exact .plain1 ρ (List.all_eq_true.1 h x (List.mem_of_getElem? hx))
theorem VRel.plain (ρ : Ren) {v : Value} (h : plainV v = true) : VRel ρ v v := by
  cases v with
  | agg cs => exact .agg cs cs rfl (LRel.plain ρ h).2
  | _ => exact .plain1 ρ h

/-- The cells of one value lie as the other's. -/
theorem VRel.cells {ρ : Ren} {x y : Value} (h : VRel ρ x y) (hn : x.cells.toList.all oneCell = true) : LRel ρ x.cells.toList y.cells.toList := by
  have one : ∀ {x y : Value}, VRel ρ x y → LRel ρ [x] [y] := fun h => .cons h (.nil ρ)
  cases h with
  | any v => simp [undef, Value.cells, oneCell] at hn
  | skip => simp [Value.cells, Mir.oneCell] at hn
  | agg cs ds hl h => exact ⟨hl, h⟩
  | tuple cs ds hl h => simp [Value.cells, oneCell] at hn
  | bool b => exact one (.bool b)
  | int k n => exact one (.int k n)
  | string s => exact one (.string s)
  | ptrNil => exact one .ptrNil
  | ptr b o p h => exact one (.ptr b o p h)
  | sliceNil l c => exact one (.sliceNil l c)
  | slice0 a a' => exact one (.slice0 a a')
  | slice b o l c c' p h hc => exact one (.slice b o l c c' p h hc)
  | mapNil => exact one .mapNil
  | map r p h => exact one (.map r p h)
  | func fn f f' c c' hy hf hc h h' => exact one (.func fn f f' c c' hy hf hc h h')
  | yield l p h => exact one (.yield l p h)
  | nilFunc => exact one .nilFunc
  | iface t x y h => exact one (.iface t x y h)
  | nilIface => exact one .nilIface

theorem VRel.oneCell {ρ : Ren} {x y : Value} (h : VRel ρ x y) (hx : Mir.oneCell x = true) : Mir.oneCell y = true := by
  cases h <;> first | rfl | (simp [undef, Mir.oneCell] at hx)

end Go.Mir

namespace Go.Mir
open Go

inductive ORel (ρ : Ren) : Obj → Obj → Prop
  | map (es es' : Array MapEntry) (clk : Nat) (hl : es.toList.length = es'.toList.length)
      (h : ∀ (i : Nat) (e e' : MapEntry), es.toList[i]? = some e → es'.toList[i]? = some e' → e.key = e'.key ∧ e.born = e'.born ∧ VRel ρ e.val e'.val) :
      ORel ρ (.map es clk) (.map es' clk)
  | iter (s : ByteArray) (p : Nat) : ORel ρ (.stringIter s p) (.stringIter s p)
  | loop (r r' : Loop) (hs : r'.state = r.state) (hp : r'.pending = r.pending) (hq : r'.params = r.params) (ha : r'.assign = r.assign) (hb : r'.body = r.body)
      (ht : LRel ρ r.tmps.toList r'.tmps.toList) : ORel ρ (.loop r) (.loop r')

theorem ORel.mono {ρ ρ' : Ren} (h : ρ.le ρ') {x y : Obj} (v : ORel ρ x y) : ORel ρ' x y := by
  cases v with
  | map es es' clk hl hh => exact .map es es' clk hl fun i e e' a b => let ⟨p, q, r⟩ := hh i e e' a b; ⟨p, q, r.mono h⟩
  | iter s p => exact .iter s p
  | loop r r' hs hp hq ha hb ht => exact .loop r r' hs hp hq ha hb (ht.mono h)

/-- The abstract cells lie at a place of the concrete ones. -/
def CRel (ρ : Ren) (cs : List Value) (C : Array Value) (off : Nat) : Prop := ∀ (i : Nat) (x : Value), cs[i]? = some x → ∃ y, C.toList[off + i]? = some y ∧ VRel ρ x y

theorem CRel.mono {ρ ρ' : Ren} (h : ρ.le ρ') {cs : List Value} {C : Array Value} {off : Nat} (v : CRel ρ cs C off) : CRel ρ' cs C off :=
  fun i x hx => let ⟨y, hy, hv⟩ := v i x hx; ⟨y, hy, hv.mono h⟩

def BRel (P : Program) (ρ : Ren) (x : ABlk) (p : Place) (w : World) : Prop :=
  match x with
  | .cells cs e g => ∃ C F, w.heap[p.blk]? = some (.cells C e F) ∧ cs.length = p.top ∧ CRel ρ cs C p.off ∧ (F.1 = F.2 ∨ C.size ≤ F.1) ∧
      p.off + p.top + p.extra * p.esz ≤ C.size ∧ (g = false → p.extra = 0) ∧ (P.info? e).map (·.size) = some p.esz
  | .ro cs e => ∃ C e0 F, w.heap[p.blk]? = some (.cells C e0 F) ∧ cs.length = p.top ∧ CRel ρ cs C p.off ∧ (P.info? e).map (·.size) = some p.esz ∧ p.extra = 0
  | .obj o => ∃ o', w.heap[p.blk]? = some o' ∧ ORel ρ o o' ∧ p.off = 0
  | .dead => True

theorem BRel.mono {P : Program} {ρ ρ' : Ren} (h : ρ.le ρ') {x : ABlk} {p : Place} {w : World} (v : BRel P ρ x p w) : BRel P ρ' x p w := by
  cases x with
  | cells cs e g => obtain ⟨C, F, a, b, c, d⟩ := v; exact ⟨C, F, a, b, c.mono h, d⟩
  | ro cs e => obtain ⟨C, e0, F, a, b, c, d⟩ := v; exact ⟨C, e0, F, a, b, c.mono h, d⟩
  | obj o => obtain ⟨o', a, b, c⟩ := v; exact ⟨o', a, b.mono h, c⟩
  | dead => trivial

theorem BRel.world {P : Program} {ρ : Ren} {x : ABlk} {p : Place} {w w' : World} (h : w'.heap[p.blk]? = w.heap[p.blk]?) (v : BRel P ρ x p w) : BRel P ρ x p w' := by
  cases x with
  | cells cs e g => obtain ⟨C, F, a, b⟩ := v; exact ⟨C, F, h.trans a, b⟩
  | ro cs e => obtain ⟨C, e0, F, a, b⟩ := v; exact ⟨C, e0, F, h.trans a, b⟩
  | obj o => obtain ⟨o', a, b⟩ := v; exact ⟨o', h.trans a, b⟩
  | dead => trivial

def ABlk.rw : ABlk → Bool
  | .cells _ _ _ | .obj _ => true
  | _ => false
def ABlk.live : ABlk → Bool
  | .dead => false
  | _ => true
theorem ABlk.live_of_rw {x : ABlk} (h : x.rw = true) : x.live = true := by cases x <;> first | rfl | cases h

structure Rel (P : Program) (ρ : Ren) (S : St) (w : World) : Prop where
  dom : ∀ b p, ρ b = some p → b < S.next ∧ p.blk < w.heap.size
  blk : ∀ b p x, ρ b = some p → S.get b = some x → BRel P ρ x p w
  inj : ∀ b b' p p' x x', ρ b = some p → ρ b' = some p' → S.get b = some x → S.get b' = some x' → x.rw = true → x'.live = true → p.blk = p'.blk → b = b'
  fresh : ∀ b, S.next ≤ b → S.get b = none
  next : S.next ≤ 1073741824

structure Step (ρ : Ren) (S : St) (w : World) (ρ' : Ren) (S' : St) (w' : World) : Prop where
  le : ρ.le ρ'
  new : ∀ b p, ρ' b = some p → ρ b = none → S.next ≤ b ∧ (w.heap.size ≤ p.blk ∨ ∃ b0 p0 x0, ρ b0 = some p0 ∧ S.get b0 = some x0 ∧ x0.rw = true ∧ p0.blk = p.blk)
  old : ∀ b p x, ρ b = some p → S'.get b = some x → x.live = true → ∃ x0, S.get b = some x0 ∧ x0.live = true ∧ (x.rw = true → x0.rw = true)
  frame : ∀ k, k < w.heap.size → (∀ b p x, ρ b = some p → S.get b = some x → x.rw = true → p.blk ≠ k) → w'.heap[k]? = w.heap[k]?
  size : w.heap.size ≤ w'.heap.size
  next : S.next ≤ S'.next
  os : w'.os = w.os
  tape : w'.tape = w.tape
  output : w'.output = w.output

theorem Step.refl (ρ : Ren) (S : St) (w : World) : Step ρ S w ρ S w :=
  ⟨Ren.le_refl ρ, fun b p h k => (by rw [h] at k; cases k), fun b p x _ hx hl => ⟨x, hx, hl, id⟩, fun _ _ _ => rfl, Nat.le_refl _, Nat.le_refl _, rfl, rfl, rfl⟩

theorem Step.trans {ρ ρ1 ρ2 : Ren} {S S1 S2 : St} {w w1 w2 : World} (h : Step ρ S w ρ1 S1 w1) (k : Step ρ1 S1 w1 ρ2 S2 w2) : Step ρ S w ρ2 S2 w2 := by
  have oldrw : ∀ b p x, ρ b = some p → S1.get b = some x → x.rw = true → ∃ x0, S.get b = some x0 ∧ x0.rw = true := fun b p x hb hx hr =>
    let ⟨x0, a, _, c⟩ := h.old b p x hb hx (ABlk.live_of_rw hr); ⟨x0, a, c hr⟩
  refine ⟨Ren.le_trans h.le k.le, ?_, ?_, ?_, Nat.le_trans h.size k.size, Nat.le_trans h.next k.next, k.os.trans h.os, k.tape.trans h.tape, k.output.trans h.output⟩
  · intro b p hb hn
    cases h1 : ρ1 b with
    | some q =>
      have := k.le b q h1
      rw [hb] at this; cases this
      exact h.new b p h1 hn
    | none =>
      obtain ⟨hlt, hc⟩ := k.new b p hb h1
      refine ⟨Nat.le_trans h.next hlt, ?_⟩
      rcases hc with hc | ⟨b0, p0, x0, hb0, hx0, hr0, he⟩
      · exact .inl (Nat.le_trans h.size hc)
      · cases h2 : ρ b0 with
        | some q =>
          have := h.le b0 q h2
          rw [hb0] at this; cases this
          obtain ⟨x1, hx1, hr1⟩ := oldrw b0 p0 x0 h2 hx0 hr0
          exact .inr ⟨b0, p0, x1, h2, hx1, hr1, he⟩
        | none =>
          obtain ⟨_, hd⟩ := h.new b0 p0 hb0 h2
          rcases hd with hd | ⟨b1, p1, x1, hb1, hx1, hr1, he1⟩
          · exact .inl (he ▸ hd)
          · exact .inr ⟨b1, p1, x1, hb1, hx1, hr1, he1.trans he⟩
  · intro b p x hb hx hl
    obtain ⟨x1, hx1, hl1, hr1⟩ := k.old b p x (h.le b p hb) hx hl
    obtain ⟨x0, hx0, hl0, hr0⟩ := h.old b p x1 hb hx1 hl1
    exact ⟨x0, hx0, hl0, fun e => hr0 (hr1 e)⟩
  · intro c hc hno
    rw [k.frame c (Nat.lt_of_lt_of_le hc h.size) ?_, h.frame c hc hno]
    intro b p x hb hx hr
    cases h1 : ρ b with
    | some q =>
      have := h.le b q h1
      rw [hb] at this; cases this
      obtain ⟨x0, hx0, hr0⟩ := oldrw b p x h1 hx hr
      exact hno b p x0 h1 hx0 hr0
    | none =>
      obtain ⟨_, hd⟩ := h.new b p hb h1
      rcases hd with hd | ⟨b1, p1, x1, hb1, hx1, hr1, he1⟩
      · omega
      · exact he1 ▸ hno b1 p1 x1 hb1 hx1 hr1

/-- What the relation says of a world hangs on its heap alone. -/
theorem Rel.heap {P : Program} {ρ : Ren} {S : St} {w w' : World} (h : Rel P ρ S w) (e : w'.heap = w.heap) : Rel P ρ S w' :=
  ⟨fun b p hb => by rw [e]; exact h.dom b p hb, fun b p x hb hx => (h.blk b p x hb hx).world (by rw [e]), h.inj, h.fresh, h.next⟩
theorem Step.draw (ρ : Ren) (S : St) {w w' : World} (e : w'.heap = w.heap) (h1 : w'.os = w.os) (h2 : w'.tape = w.tape) (h3 : w'.output = w.output) : Step ρ S w ρ S w' :=
  ⟨Ren.le_refl ρ, fun b p h k => (by rw [h] at k; cases k), fun b p x _ hx hl => ⟨x, hx, hl, id⟩, fun _ _ _ => by rw [e], by rw [e]; exact Nat.le_refl _, Nat.le_refl _, h1, h2, h3⟩

/-- One block's content is turned, and with it the concrete block. -/
theorem Rel.turn {P : Program} {ρ : Ren} {S S' : St} {w w' : World} (h : Rel P ρ S w) {b : Nat} {p : Place} {x x' : ABlk} {o : Obj} (hb : ρ b = some p) (hx : S.get b = some x) (hr : x.rw = true)
    (hget : ∀ m, S'.get m = if m = b then some x' else S.get m) (hnx : S'.next = S.next)
    (hw : w'.heap = w.heap.setIfInBounds p.blk o) (h1 : w'.os = w.os) (h2 : w'.tape = w.tape) (h3 : w'.output = w.output) (hx' : BRel P ρ x' p w') (hl : x'.live = true → x.live = true) :
    Rel P ρ S' w' ∧ Step ρ S w ρ S' w' := by
  have hs : w'.heap.size = w.heap.size := by rw [hw]; simp
  have hk : ∀ k, k ≠ p.blk → w'.heap[k]? = w.heap[k]? := fun k hk => by rw [hw, Array.getElem?_setIfInBounds]; rw [if_neg (fun e => hk e.symm)]
  constructor
  · refine ⟨fun c q hc => by rw [hs, hnx]; exact h.dom c q hc, ?_, ?_, ?_, hnx ▸ h.next⟩
    · intro c q y hc hy
      rw [hget] at hy
      by_cases e : c = b
      · subst e; rw [if_pos rfl] at hy; cases hy; rw [hb] at hc; cases hc; exact hx'
      · rw [if_neg e] at hy
        by_cases hlv : y.live = true
        · refine (h.blk c q y hc hy).world (hk _ fun e' => e ?_)
          exact (h.inj b c p q x y hb hc hx hy hr hlv e'.symm).symm
        · cases y <;> first | exact trivial | exact absurd rfl hlv
    · intro c c' q q' y y' hc hc' hy hy' hyr hyl he
      rw [hget] at hy hy'
      have live : ∀ d z, (if d = b then some x' else S.get d) = some z → z.live = true → ∃ z0, S.get d = some z0 ∧ z0.live = true := by
        intro d z hz hzl
        by_cases e : d = b
        · subst e; rw [if_pos rfl] at hz; cases hz; exact ⟨x, hx, hl hzl⟩
        · rw [if_neg e] at hz; exact ⟨z, hz, hzl⟩
      have rww : ∀ d z, (if d = b then some x' else S.get d) = some z → z.rw = true → ∃ z0, S.get d = some z0 ∧ z0.rw = true := by
        intro d z hz hzr
        by_cases e : d = b
        · subst e; exact ⟨x, hx, hr⟩
        · rw [if_neg e] at hz; exact ⟨z, hz, hzr⟩
      obtain ⟨z0, hz0, hr0⟩ := rww c y hy hyr
      obtain ⟨z1, hz1, hl1⟩ := live c' y' hy' hyl
      exact h.inj c c' q q' z0 z1 hc hc' hz0 hz1 hr0 hl1 he
    · intro c hc
      rw [hnx] at hc
      rw [hget, if_neg, h.fresh c hc]
      intro e; subst e; rw [h.fresh c hc] at hx; cases hx
  · refine ⟨Ren.le_refl ρ, fun b p h k => (by rw [h] at k; cases k), ?_, ?_, by rw [hs]; exact Nat.le_refl _, by rw [hnx]; exact Nat.le_refl _, h1, h2, h3⟩
    · intro c q y hc hy hyl
      rw [hget] at hy
      by_cases e : c = b
      · subst e; exact ⟨x, hx, ABlk.live_of_rw hr, fun _ => hr⟩
      · rw [if_neg e] at hy; exact ⟨y, hy, hyl, id⟩
    · intro k _ hno
      exact hk k fun e => hno b p x hb hx hr e.symm

theorem Rel.write {P : Program} {ρ : Ren} {S : St} {w w' : World} (h : Rel P ρ S w) {b : Nat} {p : Place} {x x' : ABlk} {o : Obj} (hb : ρ b = some p) (hx : S.get b = some x) (hr : x.rw = true)
    (hw : w'.heap = w.heap.setIfInBounds p.blk o) (h1 : w'.os = w.os) (h2 : w'.tape = w.tape) (h3 : w'.output = w.output) (hx' : BRel P ρ x' p w') (hl : x'.live = true → x.live = true) :
    Rel P ρ (S.put b x') w' ∧ Step ρ S w ρ (S.put b x') w' :=
  h.turn hb hx hr (fun m => St.get_put x' (Nat.lt_of_lt_of_le (h.dom b p hb).1 h.next) m) rfl hw h1 h2 h3 hx' hl

/-- A block's content is forgotten. -/
theorem Rel.kill {P : Program} {ρ : Ren} {S : St} {w : World} (h : Rel P ρ S w) {b : Nat} {x : ABlk} (hx : S.get b = some x) (hb : b < 1073741824) : Rel P ρ (S.put b .dead) w ∧ Step ρ S w ρ (S.put b .dead) w := by
  constructor
  · refine ⟨h.dom, ?_, ?_, ?_, h.next⟩
    · intro c q y hc hy
      rw [St.get_put _ hb] at hy
      by_cases e : c = b
      · subst e; rw [if_pos rfl] at hy; cases hy; trivial
      · rw [if_neg e] at hy; exact h.blk c q y hc hy
    · intro c c' q q' y y' hc hc' hy hy' hyr hyl he
      rw [St.get_put _ hb] at hy hy'
      by_cases e : c = b
      · subst e; rw [if_pos rfl] at hy; cases hy; cases hyr
      · by_cases e' : c' = b
        · subst e'; rw [if_pos rfl] at hy'; cases hy'; cases hyl
        · rw [if_neg e] at hy; rw [if_neg e'] at hy'; exact h.inj c c' q q' y y' hc hc' hy hy' hyr hyl he
    · intro c hc
      rw [St.get_put _ hb, if_neg, h.fresh c hc]
      intro e; subst e; rw [h.fresh c hc] at hx; cases hx
  · refine ⟨Ren.le_refl ρ, fun b p h k => (by rw [h] at k; cases k), ?_, fun _ _ _ => rfl, Nat.le_refl _, Nat.le_refl _, rfl, rfl, rfl⟩
    intro c q y hc hy hyl
    rw [St.get_put _ hb] at hy
    by_cases e : c = b
    · subst e; rw [if_pos rfl] at hy; cases hy; cases hyl
    · rw [if_neg e] at hy; exact ⟨y, hy, hyl, id⟩

def Ren.add (ρ : Ren) (b : Nat) (p : Place) : Ren := fun k => if k = b then some p else ρ k
theorem Ren.add_same (ρ : Ren) (b : Nat) (p : Place) : ρ.add b p b = some p := if_pos rfl
theorem Ren.le_add {ρ : Ren} {b : Nat} (p : Place) (h : ρ b = none) : ρ.le (ρ.add b p) := fun k q hk => by
  unfold Ren.add; rw [if_neg]; · exact hk
  · intro e; subst e; rw [h] at hk; cases hk

theorem Rel.none_next {P : Program} {ρ : Ren} {S : St} {w : World} (h : Rel P ρ S w) : ρ S.next = none := by
  cases e : ρ S.next with
  | none => rfl
  | some p => exact absurd (h.dom _ p e).1 (Nat.lt_irrefl _)

/-- A new block, in the abstract state and in the world: either behind all others, or in a place that nothing else has any more. -/
theorem Rel.push {P : Program} {ρ : Ren} {S : St} {w w' : World} (h : Rel P ρ S w) (hn : S.next ≤ 1073741823) (x : ABlk) (p : Place)
    (hs : w.heap.size ≤ w'.heap.size) (hp : p.blk < w'.heap.size)
    (hk : ∀ k, k < w.heap.size → k ≠ p.blk → w'.heap[k]? = w.heap[k]?)
    (hfree : ∀ b q y, ρ b = some q → S.get b = some y → y.live = true → q.blk ≠ p.blk)
    (hx : BRel P (ρ.add S.next p) x p w') :
    Rel P (ρ.add S.next p) (S.push x) w' := by
  have hnone := h.none_next
  have hle := Ren.le_add p hnone
  have inv : ∀ b q, ρ.add S.next p b = some q → (b = S.next ∧ q = p) ∨ (b ≠ S.next ∧ ρ b = some q) := by
    intro b q hb
    unfold Ren.add at hb
    by_cases e : b = S.next
    · rw [if_pos e] at hb; cases hb; exact .inl ⟨e, rfl⟩
    · rw [if_neg e] at hb; exact .inr ⟨e, hb⟩
  have lt : S.next < 1073741824 := by omega
  refine ⟨?_, ?_, ?_, ?_, by simp; omega⟩
  · intro b q hb
    rcases inv b q hb with ⟨rfl, rfl⟩ | ⟨_, hb'⟩
    · exact ⟨by simp, hp⟩
    · have := h.dom b q hb'; exact ⟨by simp; omega, Nat.lt_of_lt_of_le this.2 hs⟩
  · intro b q y hb hy
    rw [St.get_push x lt] at hy
    rcases inv b q hb with ⟨rfl, rfl⟩ | ⟨e, hb'⟩
    · rw [if_pos rfl] at hy; cases hy; exact hx
    · rw [if_neg e] at hy
      by_cases hl : y.live = true
      · exact ((h.blk b q y hb' hy).mono hle).world (hk _ (h.dom b q hb').2 (hfree b q y hb' hy hl))
      · cases y <;> first | exact trivial | exact absurd rfl hl
  · intro b b' q q' y y' hb hb' hy hy' hyr hyl he
    rw [St.get_push x lt] at hy hy'
    rcases inv b q hb with ⟨rfl, rfl⟩ | ⟨e, hb1⟩
    · rcases inv b' q' hb' with ⟨rfl, rfl⟩ | ⟨e', hb1'⟩
      · rfl
      · rw [if_neg e'] at hy'
        exact absurd he.symm (hfree b' q' y' hb1' hy' hyl)
    · rcases inv b' q' hb' with ⟨rfl, rfl⟩ | ⟨e', hb1'⟩
      · rw [if_neg e] at hy
        exact absurd he (hfree b q y hb1 hy (ABlk.live_of_rw hyr))
      · rw [if_neg e] at hy; rw [if_neg e'] at hy'
        exact h.inj b b' q q' y y' hb1 hb1' hy hy' hyr hyl he
  · intro b hb
    simp at hb
    rw [St.get_push x lt, if_neg (by omega)]
    exact h.fresh b (by omega)

theorem Step.push {P : Program} {ρ : Ren} {S : St} {w w' : World} (h : Rel P ρ S w) (hn : S.next ≤ 1073741823) (x : ABlk) (p : Place)
    (hs : w.heap.size ≤ w'.heap.size)
    (hnew : w.heap.size ≤ p.blk ∨ ∃ b0 p0 x0, ρ b0 = some p0 ∧ S.get b0 = some x0 ∧ x0.rw = true ∧ p0.blk = p.blk)
    (hk : ∀ k, k < w.heap.size → k ≠ p.blk → w'.heap[k]? = w.heap[k]?)
    (h1 : w'.os = w.os) (h2 : w'.tape = w.tape) (h3 : w'.output = w.output) :
    Step ρ S w (ρ.add S.next p) (S.push x) w' := by
  have hnone := h.none_next
  have lt : S.next < 1073741824 := by omega
  refine ⟨Ren.le_add p hnone, ?_, ?_, ?_, hs, by simp, h1, h2, h3⟩
  · intro b q hb hb'
    unfold Ren.add at hb
    by_cases e : b = S.next
    · rw [if_pos e] at hb; cases hb; exact ⟨by omega, hnew⟩
    · rw [if_neg e] at hb; rw [hb] at hb'; cases hb'
  · intro b q y hb hy hl
    have : b ≠ S.next := fun e => by subst e; rw [hnone] at hb; cases hb
    rw [St.get_push x lt, if_neg this] at hy
    exact ⟨y, hy, hl, id⟩
  · intro k hk' hno
    refine hk k hk' fun e => ?_
    rcases hnew with hc | ⟨b0, p0, x0, hb0, hx0, hr0, he⟩
    · omega
    · exact hno b0 p0 x0 hb0 hx0 hr0 (he.trans e.symm)

/-- The usual new block: behind all others. -/
theorem Rel.alloc {P : Program} {ρ : Ren} {S : St} {w w' : World} (h : Rel P ρ S w) (hn : S.next ≤ 1073741823) (x : ABlk) (o : Obj) (top extra esz : Nat)
    (hw : w'.heap = w.heap.push o) (h1 : w'.os = w.os) (h2 : w'.tape = w.tape) (h3 : w'.output = w.output)
    (hx : BRel P (ρ.add S.next ⟨w.heap.size, 0, top, extra, esz⟩) x ⟨w.heap.size, 0, top, extra, esz⟩ w') :
    Rel P (ρ.add S.next ⟨w.heap.size, 0, top, extra, esz⟩) (S.push x) w' ∧ Step ρ S w (ρ.add S.next ⟨w.heap.size, 0, top, extra, esz⟩) (S.push x) w' := by
  have hs : w.heap.size ≤ w'.heap.size := by rw [hw]; simp
  have hk : ∀ k, k < w.heap.size → k ≠ w.heap.size → w'.heap[k]? = w.heap[k]? := fun k hk _ => by rw [hw, Array.getElem?_push, if_neg (by omega)]
  refine ⟨h.push hn x _ hs (by rw [hw]; simp) hk (fun b q y hb _ _ => ?_) hx, Step.push h hn x _ hs (.inl (Nat.le_refl _)) hk h1 h2 h3⟩
  have := (h.dom b q hb).2
  show q.blk ≠ w.heap.size
  omega

end Go.Mir

namespace Go.Mir
open Go

section
variable {P : Program} {w : World}

theorem run_program {α : Type} (k : Program → Sem α) : (program >>= k).run P w = (k P).run P w := rfl
theorem run_und {t : TypeId} {d : TypeDesc} (h : P.underlying t = some d) : (underlying t).run P w = .ok d w := run_underlying h w
theorem run_info {t : TypeId} {i : TypeInfo} (h : P.info? t = some i) : (typeInfo t).run P w = .ok i w := by
  unfold typeInfo; rw [run_program, h]; rfl
theorem run_size {t : TypeId} {n : Nat} (h : sizeT P t = some n) : (sizeOf t).run P w = .ok n w := by
  unfold sizeT at h
  cases hi : P.info? t with
  | none => rw [hi] at h; cases h
  | some i =>
    rw [hi] at h
    unfold sizeOf
    simp only [Sem.run_bind, run_info hi, Result.andThen_ok, Sem.run_pure]
    cases h; rfl
theorem zeroT_info {t : TypeId} {z : Value} (h : zeroT P t = some z) : ∃ i, P.info? t = some i ∧ i.zero = some z ∧ plainV z = true := by
  unfold zeroT at h
  split at h
  · rename_i i hi
    split at h
    · rename_i z' hz
      cases hp : plainV z' with
      | true => rw [hp] at h; cases h; exact ⟨i, hi, hz, hp⟩
      | false => rw [hp] at h; cases h
    · cases h
  · cases h
theorem run_zero {t : TypeId} {z : Value} (h : zeroT P t = some z) : (zeroValue t).run P w = .ok z w := by
  obtain ⟨i, hi, hz, _⟩ := zeroT_info h
  unfold zeroValue
  simp only [Sem.run_bind, run_info hi, Result.andThen_ok, hz]; rfl
theorem run_isAgg {t : TypeId} {b : Bool} (h : aggT P t = some b) : (isAgg t).run P w = .ok b w := by
  unfold aggT at h
  unfold isAgg
  cases hu : P.underlying t with
  | none => rw [hu] at h; cases h
  | some d =>
    rw [hu] at h
    simp only [Sem.run_bind, run_und hu, Result.andThen_ok]
    cases d <;> cases h <;> rfl

theorem addr_add (b o n : Nat) : (⟨b, o, none⟩ : Addr).add n = ⟨b, o + n, none⟩ := by
  unfold Addr.add; split
  · subst_vars; rfl
  · rfl

theorem cell_row {B : Nat} {C : Array Value} {e : TypeId} {F : Nat × Nat} (h : w.heap[B]? = some (.cells C e F)) (o : Nat) : w.cell? ⟨B, o, none⟩ = C.toList[o]? := by
  simp [World.cell?, h]

theorem frozen_row {B : Nat} {C : Array Value} {e : TypeId} {F : Nat × Nat} (h : w.heap[B]? = some (.cells C e F)) (hF : F.1 = F.2 ∨ C.size ≤ F.1) {o : Nat} (ho : o < C.size) :
    w.frozen? ⟨B, o, none⟩ = false := by
  obtain ⟨lo, hi⟩ := F
  simp only [World.frozen?, h]
  simp only at hF
  by_cases h1 : lo ≤ o
  · have : ¬ o < hi := by omega
    simp [this]
  · simp [h1]

theorem run_loadCells' {B o n : Nat} {C : Array Value} {e : TypeId} {F : Nat × Nat} (h : w.heap[B]? = some (.cells C e F)) (hl : o + n ≤ C.size) :
    (loadCells ⟨B, o, none⟩ n).run P w = .ok ⟨(C.toList.drop o).take n⟩ w := by
  have hlen : ((C.toList.drop o).take n).length = n := by simp; omega
  have := run_loadCells_list (P := P) w ⟨B, o, none⟩ ((C.toList.drop o).take n) (fun j v hv => by
    rw [addr_add, cell_row h]
    rw [List.getElem?_take] at hv
    split at hv
    · rw [List.getElem?_drop] at hv; exact hv
    · cases hv)
  rw [hlen] at this
  exact this

/-- A row of cells with some of them turned. -/
def World.setRow (w : World) (B : Nat) (C : Array Value) (e : TypeId) (F : Nat × Nat) : World := { w with heap := w.heap.setIfInBounds B (.cells C e F) }

theorem setCell_row {B o : Nat} {C : Array Value} {e : TypeId} {F : Nat × Nat} (h : w.heap[B]? = some (.cells C e F)) (v : Value) :
    w.setCell ⟨B, o, none⟩ v = World.setRow w B (C.setIfInBounds o v) e F := by
  unfold World.setCell World.setRow
  congr 1
  apply Array.ext_getElem?
  intro i
  rw [Array.getElem?_modify, Array.getElem?_setIfInBounds]
  by_cases hi : B = i
  · subst hi
    rw [if_pos rfl, if_pos rfl, h]
    have : B < w.heap.size := by
      rcases Nat.lt_or_ge B w.heap.size with h' | h'
      · exact h'
      · rw [Array.getElem?_eq_none h'] at h; cases h
    rw [if_pos this]; simp
  · rw [if_neg hi, if_neg hi]

theorem setRow_heap {B : Nat} {C C' : Array Value} {e : TypeId} {F : Nat × Nat} (h : w.heap[B]? = some (.cells C e F)) : (World.setRow w B C' e F).heap[B]? = some (.cells C' e F) := by
  have : B < w.heap.size := by
    rcases Nat.lt_or_ge B w.heap.size with h' | h'
    · exact h'
    · rw [Array.getElem?_eq_none h'] at h; cases h
  simp [World.setRow, this]

theorem setRow_setRow (w : World) (B : Nat) (C C' : Array Value) (e : TypeId) (F : Nat × Nat) : World.setRow (World.setRow w B C e F) B C' e F = World.setRow w B C' e F := by
  unfold World.setRow
  congr 1
  apply Array.ext_getElem?
  intro i
  simp only [Array.getElem?_setIfInBounds, Array.size_setIfInBounds]
  by_cases hi : B = i
  · subst hi; simp
  · simp [hi]

theorem setRow_same {B : Nat} {C : Array Value} {e : TypeId} {F : Nat × Nat} (h : w.heap[B]? = some (.cells C e F)) : World.setRow w B C e F = w := by
  have : w.heap.setIfInBounds B (.cells C e F) = w.heap := by
    apply Array.ext_getElem?
    intro i
    rw [Array.getElem?_setIfInBounds]
    by_cases hi : B = i
    · subst hi
      have : B < w.heap.size := by
        rcases Nat.lt_or_ge B w.heap.size with h' | h'
        · exact h'
        · rw [Array.getElem?_eq_none h'] at h; cases h
      rw [if_pos rfl, if_pos this, h]
    · rw [if_neg hi]
  unfold World.setRow
  rw [this]

theorem splice_length (cs : List Value) (i : Nat) (vs : List Value) (h : i + vs.length ≤ cs.length) : (splice cs i vs).length = cs.length := by
  unfold splice; simp; omega

theorem splice_get (cs : List Value) (i : Nat) (vs : List Value) (h : i + vs.length ≤ cs.length) (j : Nat) :
    (splice cs i vs)[j]? = if i ≤ j ∧ j < i + vs.length then vs[j - i]? else cs[j]? := by
  unfold splice
  have h1 : (List.take i cs).length = i := by simp; omega
  by_cases a : j < i
  · rw [if_neg (by omega), List.append_assoc, List.getElem?_append_left (by omega), List.getElem?_take, if_pos a]
  · by_cases b : j < i + vs.length
    · rw [if_pos ⟨by omega, b⟩, List.append_assoc, List.getElem?_append_right (by omega), h1, List.getElem?_append_left (by omega)]
    · rw [if_neg (by omega), List.getElem?_append_right (by simp; omega), List.getElem?_drop]
      congr 1; simp; omega

theorem splice_cons (cs : List Value) (i : Nat) (v : Value) (vs : List Value) (h : i + (vs.length + 1) ≤ cs.length) : splice (cs.set i v) (i + 1) vs = splice cs i (v :: vs) := by
  apply List.ext_getElem?
  intro j
  rw [splice_get _ _ _ (by simp; omega), splice_get _ _ _ (by simpa using h), List.getElem?_set]
  by_cases a : j = i
  · subst a
    rw [if_neg (by omega)]
    simp only [if_true]
    rw [if_pos (show j < cs.length by omega), if_pos (by simp)]
    simp
  · by_cases b : i + 1 ≤ j ∧ j < i + 1 + vs.length
    · rw [if_pos b, if_pos (by simp; omega)]
      rw [show j - i = (j - (i + 1)) + 1 by omega, List.getElem?_cons_succ]
    · rw [if_neg b, if_neg (by omega), if_neg (by simp; omega)]

theorem run_store1 {B o : Nat} {C : Array Value} {e : TypeId} {F : Nat × Nat} (h : w.heap[B]? = some (.cells C e F)) (hF : F.1 = F.2 ∨ C.size ≤ F.1) (ho : o < C.size) {v : Value} (hv : Mir.oneCell v = true) :
    (store ⟨B, o, none⟩ v).run P w = .ok () (World.setRow w B (C.setIfInBounds o v) e F) := by
  have hc : w.cell? ⟨B, o, none⟩ = some C[o] := by rw [cell_row h]; simp [ho]
  have hf := frozen_row h hF ho
  unfold store
  cases v <;> first
    | (simp [Mir.oneCell] at hv; done)
    | (simp only [Sem.run, hc, hf]; rw [setCell_row h]; rfl)

theorem run_storeCells' {B o : Nat} {e : TypeId} {F : Nat × Nat} : ∀ (vs : List Value) (i : Nat) (w : World) (C : Array Value), w.heap[B]? = some (.cells C e F) → (F.1 = F.2 ∨ C.size ≤ F.1) →
    o + i + vs.length ≤ C.size → vs.all Mir.oneCell = true → (storeCells ⟨B, o, none⟩ vs i).run P w = .ok () (World.setRow w B ⟨splice C.toList (o + i) vs⟩ e F)
  | [], i, w, C, h, hF, hl, hv => by
    unfold storeCells
    have : (⟨splice C.toList (o + i) []⟩ : Array Value) = C := by unfold splice; simp
    rw [this, setRow_same h]; rfl
  | v :: vs, i, w, C, h, hF, hl, hv => by
    unfold storeCells
    simp only [List.all_cons, Bool.and_eq_true] at hv
    simp only [List.length_cons] at hl
    rw [Sem.run_bind, addr_add, run_store1 h hF (by omega) hv.1, Result.andThen_ok]
    have h' := setRow_heap (C' := C.setIfInBounds (o + i) v) h
    rw [run_storeCells' vs (i + 1) _ _ h' (by simpa using hF) (by simp; omega) hv.2, setRow_setRow]
    congr 3
    have := splice_cons C.toList (o + i) v vs (by simpa using by omega)
    simp only [Array.toList_setIfInBounds]
    rw [← this]; rfl
end

/-! ### Loads -/
section
variable {P : Program} {ρ : Ren} {S : St} {w : World}

theorem Rel.row (h : Rel P ρ S w) {b : Nat} {p : Place} {cs : List Value} (hb : ρ b = some p) (hr : S.row b = some cs) :
    ∃ C e F, w.heap[p.blk]? = some (.cells C e F) ∧ CRel ρ cs C p.off ∧ cs.length = p.top := by
  unfold St.row at hr
  cases hx : S.get b with
  | none => rw [hx] at hr; cases hr
  | some x =>
    have hB := h.blk b p x hb hx
    rw [hx] at hr
    cases x with
    | cells cs' e g => cases hr; obtain ⟨C, F, a, b, c, _⟩ := hB; exact ⟨C, e, F, a, c, b⟩
    | ro cs' e => cases hr; obtain ⟨C, e0, F, a, b, c, _⟩ := hB; exact ⟨C, e0, F, a, c, b⟩
    | obj o => cases hr
    | dead => cases hr

theorem CRel.bound {cs : List Value} {C : Array Value} {off : Nat} (h : CRel ρ cs C off) {n : Nat} (hn : n ≤ cs.length) (h0 : 0 < n) : off + n ≤ C.size := by
  have hx : cs[n - 1]? = some cs[n - 1] := List.getElem?_eq_getElem (by omega)
  obtain ⟨y, hy, _⟩ := h (n - 1) _ hx
  have : off + (n - 1) < C.toList.length := by
    rcases Nat.lt_or_ge (off + (n - 1)) C.toList.length with h | h
    · exact h
    · rw [List.getElem?_eq_none h] at hy; cases hy
  simp at this; omega

theorem CRel.part {cs : List Value} {C : Array Value} {off : Nat} (h : CRel ρ cs C off) {i n : Nat} (hn : i + n ≤ cs.length) :
    LRel ρ ((cs.drop i).take n) ((C.toList.drop (off + i)).take n) := by
  have hlen : ((C.toList.drop (off + i)).take n).length = n := by
    rcases Nat.eq_zero_or_pos n with e | e
    · subst e; simp
    · have := h.bound (n := i + n) hn (by omega)
      simp; omega
  refine ⟨by rw [hlen]; simp; omega, fun j x y hx hy => ?_⟩
  rw [List.getElem?_take] at hx hy
  split at hx
  · rw [if_pos (by assumption)] at hy
    rw [List.getElem?_drop] at hx hy
    obtain ⟨y', hy', hv⟩ := h (i + j) x hx
    rw [← Nat.add_assoc, hy] at hy'; cases hy'; exact hv
  · cases hx

theorem cellsAt_sim (h : Rel P ρ S w) {b o n : Nat} {p : Place} {l : List Value} (hb : ρ b = some p) (hl : cellsAt S ⟨b, o, none⟩ n = some l) :
    ∃ l', (∀ w' : World, w'.heap = w.heap → (loadCells ⟨p.blk, p.off + o, none⟩ n).run P w' = .ok ⟨l'⟩ w') ∧ LRel ρ l l' := by
  unfold cellsAt at hl
  simp only at hl
  cases hr : S.row b with
  | none => rw [hr] at hl; cases hl
  | some cs =>
    rw [hr] at hl
    simp only at hl
    cases hle : Nat.ble (o + n) cs.length with
    | false => rw [hle] at hl; cases hl
    | true =>
      rw [hle] at hl; cases hl
      have hle' := Nat.le_of_ble_eq_true hle
      obtain ⟨C, e, F, hw, hC, _⟩ := h.row hb hr
      rcases Nat.eq_zero_or_pos n with e0 | e0
      · subst e0
        exact ⟨[], fun _ _ => rfl, by simpa using LRel.nil ρ⟩
      · have := hC.bound (n := o + n) hle' (by omega)
        exact ⟨_, fun w' e => run_loadCells' (by rw [e]; exact hw) (by omega), hC.part hle'⟩

theorem cellAt_sim (h : Rel P ρ S w) {b o : Nat} {p : Place} {v : Value} (hb : ρ b = some p) (hl : cellAt S ⟨b, o, none⟩ = some v) :
    ∃ v', w.cell? ⟨p.blk, p.off + o, none⟩ = some v' ∧ VRel ρ v v' := by
  unfold cellAt at hl
  simp only at hl
  cases hr : S.row b with
  | none => rw [hr] at hl; cases hl
  | some cs =>
    rw [hr] at hl
    obtain ⟨C, e, F, hw, hC, _⟩ := h.row hb hr
    obtain ⟨y, hy, hv⟩ := hC o v hl
    exact ⟨y, by rw [cell_row hw]; exact hy, hv⟩

theorem run_load' {a : Addr} {v : Value} (h : w.cell? a = some v) : (load a).run P w = .ok v w := by
  simp only [run_load, h]

theorem loadT_sim (h : Rel P ρ S w) {t : TypeId} {b o : Nat} {p : Place} {v : Value} (hb : ρ b = some p) (hl : loadT P S t ⟨b, o, none⟩ = some v) :
    ∃ v', (loadVar t ⟨p.blk, p.off + o, none⟩).run P w = .ok v' w ∧ VRel ρ v v' := by
  unfold loadT at hl
  cases ha : aggT P t with
  | none => rw [ha] at hl; cases hl
  | some g =>
    rw [ha] at hl
    unfold loadVar
    simp only [Sem.run_bind, run_isAgg ha, Result.andThen_ok]
    cases g with
    | false =>
      simp only at hl
      obtain ⟨v', hv', hr⟩ := cellAt_sim h hb hl
      exact ⟨v', by simp [hv'], hr⟩
    | true =>
      simp only at hl
      cases hs : sizeT P t with
      | none => rw [hs] at hl; cases hl
      | some n =>
        rw [hs] at hl; simp only at hl
        cases hc : cellsAt S ⟨b, o, none⟩ n with
        | none => rw [hc] at hl; cases hl
        | some l =>
          rw [hc] at hl; cases hl
          obtain ⟨l', hrun, hL⟩ := cellsAt_sim h hb hc
          refine ⟨.agg ⟨l'⟩, ?_, .agg _ _ hL.1 hL.2⟩
          simp only [if_true, Sem.run_bind, run_size hs, Result.andThen_ok, hrun w rfl]
          rfl
end
end Go.Mir

namespace Go.Mir
open Go
section
variable {P : Program} {ρ : Ren} {S S' : St} {w : World}

theorem LRel.all_one {xs ys : List Value} (h : LRel ρ xs ys) (hx : xs.all Mir.oneCell = true) : ys.all Mir.oneCell = true := by
  rw [List.all_eq_true]
  intro y hy
  obtain ⟨i, hi⟩ := List.getElem?_of_mem hy
  have hi' : i < xs.length := by
    rw [h.1]
    rcases Nat.lt_or_ge i ys.length with h | h
    · exact h
    · rw [List.getElem?_eq_none h] at hi; cases hi
  have hx' : xs[i]? = some xs[i] := List.getElem?_eq_getElem hi'
  exact (h.2 i _ y hx' hi).oneCell (List.all_eq_true.1 hx _ (List.mem_of_getElem? hx'))

theorem CRel.splice {cs : List Value} {C : Array Value} {off : Nat} (h : CRel ρ cs C off) {i : Nat} {vs vs' : List Value} (hv : LRel ρ vs vs') (hl : i + vs.length ≤ cs.length) (hC : off + i + vs.length ≤ C.size) :
    CRel ρ (splice cs i vs) ⟨Mir.splice C.toList (off + i) vs'⟩ off := by
  intro j x hx
  rw [splice_get _ _ _ hl] at hx
  have hC' : off + i + vs'.length ≤ C.toList.length := by rw [← hv.1]; simpa using hC
  show ∃ y, (Mir.splice C.toList (off + i) vs')[off + j]? = some y ∧ VRel ρ x y
  rw [splice_get _ _ _ hC']
  by_cases a : i ≤ j ∧ j < i + vs.length
  · rw [if_pos a] at hx
    rw [if_pos (by rw [← hv.1]; omega), show off + j - (off + i) = j - i by omega]
    exact hv.get hx
  · rw [if_neg a] at hx
    rw [if_neg (by rw [← hv.1]; omega)]
    exact h j x hx

theorem storeCellsA_sim (h : Rel P ρ S w) {b o : Nat} {p : Place} {vs vs' : List Value} (hb : ρ b = some p) (hv : LRel ρ vs vs') (h1 : vs.all Mir.oneCell = true) (hs : storeCellsA S ⟨b, o, none⟩ vs = some S') :
    ∃ w', (storeCells ⟨p.blk, p.off + o, none⟩ vs').run P w = .ok () w' ∧ Rel P ρ S' w' ∧ Step ρ S w ρ S' w' := by
  cases vs with
  | nil =>
    obtain rfl := hv.inv_nil
    cases hs
    exact ⟨w, rfl, h, .refl _ _ _⟩
  | cons v vs =>
    unfold storeCellsA at hs
    simp only at hs
    cases hx : S.get b with
    | none => rw [hx] at hs; cases hs
    | some x =>
      rw [hx] at hs
      cases x with
      | cells cs e g =>
        simp only at hs
        cases hle : Nat.ble (o + (v :: vs).length) cs.length with
        | false => rw [hle] at hs; cases hs
        | true =>
          rw [hle] at hs; simp only [cond_true, Option.some.injEq] at hs
          subst hs
          have hle' := Nat.le_of_ble_eq_true hle
          obtain ⟨C, F, hw, hlen, hC, hF, htop, hg, hsz⟩ := h.blk b p _ hb hx
          have hCb : p.off + o + (v :: vs).length ≤ C.size := by
            have := hC.bound (n := o + (v :: vs).length) hle' (by rw [List.length_cons]; omega); omega
          have hrun := run_storeCells' (P := P) (B := p.blk) (o := p.off + o) vs' 0 w C hw hF (by rw [← hv.1]; omega) (hv.all_one h1)
          refine ⟨_, hrun, h.write hb hx rfl (o := .cells ⟨Mir.splice C.toList (p.off + o + 0) vs'⟩ e F) rfl rfl rfl rfl ?_ (fun _ => rfl)⟩
          refine ⟨_, F, setRow_heap hw, ?_, ?_, ?_, ?_, hg, hsz⟩
          · rw [splice_length _ _ _ hle']; exact hlen
          · exact hC.splice hv hle' (by omega)
          · show F.1 = F.2 ∨ (Mir.splice C.toList (p.off + o + 0) vs').length ≤ F.1
            rw [splice_length _ _ _ (by rw [← hv.1]; simpa using hCb)]; simpa using hF
          · show _ ≤ (Mir.splice C.toList (p.off + o + 0) vs').length
            rw [splice_length _ _ _ (by rw [← hv.1]; simpa using hCb)]; simpa using htop
      | _ => cases hs

theorem storeT_sim (h : Rel P ρ S w) {t : TypeId} {b o : Nat} {p : Place} {v v' : Value} (hb : ρ b = some p) (hv : VRel ρ v v') (hs : storeT P S t ⟨b, o, none⟩ v = some S') :
    ∃ w', (storeVar t ⟨p.blk, p.off + o, none⟩ v').run P w = .ok () w' ∧ Rel P ρ S' w' ∧ Step ρ S w ρ S' w' := by
  unfold storeT at hs
  cases hn : sizeT P t with
  | none => rw [hn] at hs; cases hs
  | some n =>
    rw [hn] at hs; simp only at hs
    cases hc : (v.cells.size == n && v.cells.toList.all Mir.oneCell) with
    | false => rw [hc] at hs; cases hs
    | true =>
      rw [hc] at hs; simp only [cond_true] at hs
      simp only [Bool.and_eq_true, beq_iff_eq] at hc
      have hL := hv.cells hc.2
      obtain ⟨w', hrun, hr⟩ := storeCellsA_sim h hb hL hc.2 hs
      refine ⟨w', ?_, hr⟩
      have hsz : v'.cells.size = n := by have := hL.1; simp at this; rw [← this]; exact hc.1
      unfold storeVar
      simp only [Sem.run_bind, run_size hn, Result.andThen_ok, hsz, ne_eq, not_true_eq_false, if_false]
      exact hrun

/-- A world with one block more. -/
abbrev grow (w : World) (o : Obj) : World := { w with heap := w.heap.push o }

theorem run_newRow (e : TypeId) (c : Array Value) : (newRow e c).run P w = .ok ⟨w.heap.size, 0, none⟩ (grow w (.cells c e (0, 0))) := rfl

theorem grow_heap (w : World) (o : Obj) : (grow w o).heap[w.heap.size]? = some o := by simp [grow]

/-- A new row of cells: 'extra' more elements behind those that are known. -/
theorem newCells_sim (h : Rel P ρ S w) (hn : S.next ≤ 1073741823) {e : TypeId} {n : Nat} (hsz : sizeT P e = some n) {cs cs' : List Value} {C : Array Value} {F : Nat × Nat} (hL : LRel ρ cs cs')
    (hC : ∀ (i : Nat) (y : Value), cs'[i]? = some y → C.toList[i]? = some y) (extra : Nat) (g : Bool) (hg : g = false → extra = 0) (hx : cs.length + extra * n ≤ C.size) (hF : F.1 = F.2 ∨ C.size ≤ F.1) {w' : World}
    (hw : w'.heap = w.heap.push (.cells C e F)) (h1 : w'.os = w.os) (h2 : w'.tape = w.tape) (h3 : w'.output = w.output) :
    Rel P (ρ.add S.next ⟨w.heap.size, 0, cs.length, extra, n⟩) (S.push (.cells cs e g)) w' ∧ Step ρ S w (ρ.add S.next ⟨w.heap.size, 0, cs.length, extra, n⟩) (S.push (.cells cs e g)) w' := by
  refine h.alloc hn _ _ cs.length extra n hw h1 h2 h3 ⟨C, F, by rw [hw]; simp, rfl, ?_, hF, by simpa using hx, hg, hsz⟩
  intro i x hx
  obtain ⟨y, hy, hv⟩ := hL.get hx
  exact ⟨y, by simpa using hC i y hy, hv.mono (Ren.le_add _ h.none_next)⟩

theorem newVar_sim (h : Rel P ρ S w) {e : TypeId} {cs cs' : List Value} {r : ARes} (hL : LRel ρ cs cs') (hs : newVar P S e cs = some r) :
    ∃ v S' v' w' ρ', r = .val v S' ∧ (do pure (.pointer (some (← newRow e ⟨cs'⟩))) : Sem Value).run P w = .ok v' w' ∧ VRel ρ' v v' ∧ Rel P ρ' S' w' ∧ Step ρ S w ρ' S' w' := by
  unfold newVar at hs
  cases hsz : sizeT P e with
  | none => rw [hsz] at hs; cases hs
  | some n =>
    rw [hsz] at hs; simp only at hs
    cases hc : (Nat.ble S.next 1073741823 && cs.all Mir.oneCell) with
    | false => rw [hc] at hs; cases hs
    | true =>
      rw [hc] at hs; simp only [cond_true, Option.some.injEq] at hs
      simp only [Bool.and_eq_true] at hc
      have hn := Nat.le_of_ble_eq_true hc.1
      have := newCells_sim h hn hsz (C := ⟨cs'⟩) (F := (0, 0)) hL (fun i y hy => hy) 0 false (fun _ => rfl) (by have := hL.1; simp; omega) (.inl rfl) (w' := grow w (.cells ⟨cs'⟩ e (0, 0))) rfl rfl rfl rfl
      exact ⟨_, _, _, _, _, hs.symm, rfl, .ptr _ _ _ (Ren.add_same _ _ _), this.1, this.2⟩
end
end Go.Mir

namespace Go.Mir
open Go

theorem toList_loop (b : ByteArray) : ∀ (n i : Nat) (acc : List UInt8), b.size - i = n → ByteArray.toList.loop b i acc = acc.reverse ++ b.data.toList.drop i := by
  intro n
  induction n with
  | zero =>
    intro i acc h
    unfold ByteArray.toList.loop
    rw [if_neg (by omega)]
    have : b.data.toList.length ≤ i := by have : b.data.toList.length = b.size := rfl; omega
    rw [List.drop_eq_nil_of_le this, List.append_nil]
  | succ n ih =>
    intro i acc h
    unfold ByteArray.toList.loop
    rw [if_pos (by omega)]
    rw [ih (i + 1) _ (by omega)]
    have hi : i < b.data.toList.length := by have : b.data.toList.length = b.size := rfl; omega
    rw [List.drop_eq_getElem_cons hi]
    have hg : b.get! i = b.data.toList[i] := by
      have h2 : i < b.data.size := by simpa using hi
      show b.data[i]! = _
      rw [getElem!_pos b.data i h2]
      simp
    simp [hg]

theorem bytes_toList (b : ByteArray) : b.toList = b.data.toList := by
  unfold ByteArray.toList
  rw [toList_loop b b.size 0 [] rfl]
  simp

theorem pow2_eq (k : IntKind) : pow2 k = 2 ^ k.bits := by cases k <;> rfl
theorem pow2_int (k : IntKind) : (2 ^ k.bits : Int) = (pow2 k : Int) := by cases k <;> rfl
theorem pow2_pos (k : IntKind) : 0 < pow2 k := by cases k <;> decide

theorem lowOf_eq (k : IntKind) (x : Int) : (lowOf k x : Int) = x % (pow2 k : Int) := by
  cases x with
  | ofNat m => rfl
  | negSucc m =>
    show ((pow2 k - 1 - m % pow2 k : Nat) : Int) = _
    have h := Int.negSucc_emod m (b := (pow2 k : Int)) (by have := pow2_pos k; omega)
    have h2 := Nat.mod_lt m (pow2_pos k)
    rw [h]
    omega

theorem lowOf_lt (k : IntKind) (x : Int) : lowOf k x < pow2 k := by
  cases x with
  | ofNat m => exact Nat.mod_lt _ (pow2_pos k)
  | negSucc m =>
    show pow2 k - 1 - m % pow2 k < pow2 k
    have := pow2_pos k; omega

theorem signed_low (M H m : Nat) (hM : M = 2 * H) (h : m < M) :
    (bif Nat.ble M (2 * m) then Int.negSucc (M - 1 - m) else Int.ofNat m) = if (true && decide ((m : Int) ≥ (H : Int))) = true then (m : Int) - (M : Int) else (m : Int) := by
  by_cases hc : H ≤ m
  · have hb : Nat.ble M (2 * m) = true := Nat.ble_eq_true_of_le (by omega)
    have hd : decide ((m : Int) ≥ (H : Int)) = true := by simp; omega
    rw [hb, hd]; simp only [cond_true, Bool.and_self, if_true]
    rw [Int.negSucc_eq]; omega
  · have hb : Nat.ble M (2 * m) = false := by
      cases hb : Nat.ble M (2 * m) with
      | false => rfl
      | true => have := Nat.le_of_ble_eq_true hb; omega
    have hd : decide ((m : Int) ≥ (H : Int)) = false := by simp; omega
    rw [hb, hd]; rfl

theorem ofLow_eq (k : IntKind) (m : Nat) (h : m < pow2 k) : ofLow k m = k.wrap m := by
  have e : (m : Int) % (2 ^ k.bits : Int) = m := by rw [pow2_int]; exact Int.emod_eq_of_lt (by omega) (by omega)
  unfold IntKind.wrap
  simp only [e]
  cases k
  · exact signed_low 256 128 m rfl h
  · exact signed_low 65536 32768 m rfl h
  · exact signed_low 4294967296 2147483648 m rfl h
  · exact signed_low 18446744073709551616 9223372036854775808 m rfl h
  all_goals rfl

theorem wrap_mod (k : IntKind) (x : Int) : k.wrap (x % (pow2 k : Int)) = k.wrap x := by
  unfold IntKind.wrap
  simp only [pow2_int, Int.emod_emod_of_dvd _ (Int.dvd_refl _)]

theorem wrapA_eq (k : IntKind) (x : Int) : wrapA k x = k.wrap x := by
  unfold wrapA
  rw [ofLow_eq k _ (lowOf_lt k x), lowOf_eq, wrap_mod]

theorem wrap64_nat (m : Nat) (h : m < 9223372036854775808) : IntKind.i64.wrap (Int.ofNat m) = (m : Int) := by
  rw [← wrapA_eq]
  show ofLow .i64 (m % 18446744073709551616) = _
  rw [Nat.mod_eq_of_lt (by omega)]
  show (bif Nat.ble 18446744073709551616 (2 * m) then Int.negSucc (18446744073709551616 - 1 - m) else Int.ofNat m) = _
  cases hb : Nat.ble 18446744073709551616 (2 * m) with
  | false => rfl
  | true => have := Nat.le_of_ble_eq_true hb; omega

theorem kindEq_iff {k k' : IntKind} : kindEq k k' = true ↔ k = k' := by cases k <;> cases k' <;> simp [kindEq]

theorem intEq_eq (x y : Int) : intEq x y = (x == y) := by
  rw [Bool.eq_iff_iff, beq_iff_eq]
  cases x <;> cases y <;> simp [intEq, Nat.beq_eq, Int.ofNat_inj]
theorem intLt_eq (x y : Int) : intLt x y = decide (x < y) := by
  rw [Bool.eq_iff_iff, decide_eq_true_eq]
  cases x with
  | ofNat a =>
    cases y with
    | ofNat b => simp only [intLt, Nat.blt, Nat.ble_eq]; exact ⟨fun h => Int.ofNat_lt.2 h, fun h => Int.ofNat_lt.1 h⟩
    | negSucc b => simp only [intLt, Bool.false_eq_true, false_iff]; have := Int.negSucc_lt_zero b; have : (0 : Int) ≤ Int.ofNat a := Int.natCast_nonneg a; omega
  | negSucc a =>
    cases y with
    | ofNat b => simp only [intLt, true_iff]; have := Int.negSucc_lt_zero a; have : (0 : Int) ≤ Int.ofNat b := Int.natCast_nonneg b; omega
    | negSucc b => simp only [intLt, Nat.blt, Nat.ble_eq]; rw [Int.negSucc_eq, Int.negSucc_eq]; omega

theorem toNat_ofInt (k : IntKind) (x : Int) : (BitVec.ofInt k.bits x).toNat = lowOf k x := by
  have h := lowOf_eq k x
  rw [BitVec.toNat_ofInt]
  have : ((2 ^ k.bits : Nat) : Int) = (pow2 k : Int) := by rw [pow2_eq]
  rw [this, ← h]; simp

end Go.Mir

namespace Go.Mir
open Go
section
variable {P : Program} {w : World}

theorem run_intBits {op : BinOp} {k : IntKind} {x y : Int} {m : Nat}
    (h : match op with
      | .and => m = Nat.land (lowOf k x) (lowOf k y)
      | .or => m = Nat.lor (lowOf k x) (lowOf k y)
      | .xor => m = Nat.xor (lowOf k x) (lowOf k y)
      | .andNot => m = Nat.land (lowOf k x) (pow2 k - 1 - lowOf k y)
      | _ => False) (hm : m < pow2 k) : (Op.intBits op k x y).run P w = .ok (.int k (ofLow k m)) w := by
  have e : ∀ r : BitVec k.bits, r.toNat = m → (pure (.int k (k.wrap r.toNat)) : Sem Value).run P w = .ok (.int k (ofLow k m)) w := fun r hr => by
    rw [hr, ofLow_eq k m hm]; rfl
  cases op <;> first
    | exact h.elim
    | (unfold Op.intBits; refine e _ ?_; subst h; rw [BitVec.toNat_and, toNat_ofInt, toNat_ofInt]; rfl)
    | (unfold Op.intBits; refine e _ ?_; subst h; rw [BitVec.toNat_or, toNat_ofInt, toNat_ofInt]; rfl)
    | (unfold Op.intBits; refine e _ ?_; subst h; rw [BitVec.toNat_xor, toNat_ofInt, toNat_ofInt]; rfl)
    | (unfold Op.intBits; refine e _ ?_; subst h; rw [BitVec.toNat_and, BitVec.toNat_not, toNat_ofInt, toNat_ofInt, ← pow2_eq]; rfl)

theorem land_lt (k : IntKind) (a b : Nat) (h : a < pow2 k) : Nat.land a b < pow2 k := Nat.lt_of_le_of_lt Nat.and_le_left h
theorem lor_lt (k : IntKind) (a b : Nat) (h : a < pow2 k) (h' : b < pow2 k) : Nat.lor a b < pow2 k := by rw [pow2_eq] at *; exact Nat.or_lt_two_pow h h'
theorem xor_lt (k : IntKind) (a b : Nat) (h : a < pow2 k) (h' : b < pow2 k) : Nat.xor a b < pow2 k := by rw [pow2_eq] at *; exact Nat.xor_lt_two_pow h h'

theorem fdiv_ofNat (a n : Nat) : (Int.ofNat a).fdiv (2 ^ n) = Int.ofNat (a / 2 ^ n) := by
  have : (2 ^ n : Int) = ((2 ^ n : Nat) : Int) := by simp
  rw [this, Int.fdiv_eq_ediv_of_nonneg _ (Int.natCast_nonneg _)]; rfl
theorem fdiv_negSucc (a n : Nat) : (Int.negSucc a).fdiv (2 ^ n) = Int.negSucc (a / 2 ^ n) := by
  have e : (2 ^ n : Int) = ((2 ^ n : Nat) : Int) := by simp
  obtain ⟨m, hm⟩ : ∃ m, 2 ^ n = m + 1 := ⟨2 ^ n - 1, by have := Nat.two_pow_pos n; omega⟩
  rw [e, hm]; rfl

theorem aint_sim {op : BinOp} {t : TypeId} {k k' : IntKind} {x y : Int} {v : Value} (h : aint op k x k' y = some v) :
    (binOp op t (.int k x) (.int k' y)).run P w = .ok v w := by
  have mn : ∀ n : Nat, (bif Nat.ble n k.bits then n else k.bits) = min n k.bits := by
    intro n
    cases hb : Nat.ble n k.bits with
    | true => have := Nat.le_of_ble_eq_true hb; simp; omega
    | false =>
      have : ¬ n ≤ k.bits := fun hle => by rw [Nat.ble_eq_true_of_le hle] at hb; cases hb
      simp; omega
  cases op
  case shl =>
    simp only [aint, shiftA] at h
    cases y with
    | negSucc n => cases h
    | ofNat n =>
      simp only [Option.some.injEq] at h
      subst h
      show (Op.shift .shl k x k' (Int.ofNat n)).run P w = _
      unfold Op.shift
      rw [if_neg (by simp), wrapA_eq, mn]
      have : ((Int.ofNat (2 ^ min n k.bits)) : Int) = (2 : Int) ^ min n k.bits := by simp
      rw [this]; rfl
  case shr =>
    simp only [aint, shiftA] at h
    cases y with
    | negSucc n => cases h
    | ofNat n =>
      cases x with
      | ofNat a =>
        simp only [Option.some.injEq] at h
        subst h
        show (Op.shift .shr k (Int.ofNat a) k' (Int.ofNat n)).run P w = _
        unfold Op.shift
        rw [if_neg (by simp), mn]
        show Result.ok (Value.int k ((Int.ofNat a).fdiv (2 ^ min n k.bits))) w = _
        rw [fdiv_ofNat]
      | negSucc a =>
        simp only [Option.some.injEq] at h
        subst h
        show (Op.shift .shr k (Int.negSucc a) k' (Int.ofNat n)).run P w = _
        unfold Op.shift
        rw [if_neg (by simp), mn]
        show Result.ok (Value.int k ((Int.negSucc a).fdiv (2 ^ min n k.bits))) w = _
        rw [fdiv_negSucc]
  all_goals
    simp only [aint] at h
    have hk : kindEq k k' = true := by
      cases hk : kindEq k k' with
      | true => rfl
      | false => simp [hk] at h
    simp only [hk, cond_true] at h
    obtain rfl := kindEq_iff.1 hk
    simp only [binOp, ne_eq, not_true_eq_false, if_false]
  case quo =>
    unfold divA at h
    rw [intEq_eq] at h
    cases hy : (y == 0) with
    | true => rw [hy] at h; cases h
    | false =>
      rw [hy] at h; simp only [cond_false, Option.some.injEq] at h
      subst h
      unfold Op.intDiv
      rw [if_neg (by simpa using hy), wrapA_eq]; rfl
  case rem =>
    unfold divA at h
    rw [intEq_eq] at h
    cases hy : (y == 0) with
    | true => rw [hy] at h; cases h
    | false =>
      rw [hy] at h; simp only [cond_false, Option.some.injEq] at h
      subst h
      unfold Op.intDiv
      rw [if_neg (by simpa using hy)]; rfl
  case and => simp only [Option.some.injEq] at h; subst h; exact run_intBits rfl (land_lt _ _ _ (lowOf_lt _ _))
  case or => simp only [Option.some.injEq] at h; subst h; exact run_intBits rfl (lor_lt _ _ _ (lowOf_lt _ _) (lowOf_lt _ _))
  case xor => simp only [Option.some.injEq] at h; subst h; exact run_intBits rfl (xor_lt _ _ _ (lowOf_lt _ _) (lowOf_lt _ _))
  case andNot => simp only [Option.some.injEq] at h; subst h; exact run_intBits rfl (land_lt _ _ _ (lowOf_lt _ _))
  all_goals
    cases h
    try rw [wrapA_eq]
    try simp only [intEq_eq, intLt_eq]
    first
    | rfl
    | (simp only [Op.intCmp, Sem.run_pure]; congr 2; rw [Bool.eq_iff_iff]; simp; done)
    | (simp only [Op.intCmp, Sem.run_pure]; congr 2; rw [Bool.eq_iff_iff]; simp; omega)

theorem bytesEq_eq : ∀ (a b : List UInt8), bytesEq a b = (a == b)
  | [], [] => rfl
  | [], _ :: _ => rfl
  | _ :: _, [] => rfl
  | x :: a, y :: b => by
    unfold bytesEq
    rw [List.cons_beq_cons, ← bytesEq_eq a b]
    have : Nat.beq x.toNat y.toNat = (x == y) := by
      rw [Bool.eq_iff_iff, beq_iff_eq, Nat.beq_eq, UInt8.toNat_inj]
    rw [this]
    cases (x == y) <;> rfl
theorem bytesLt_eq : ∀ (a b : List UInt8), bytesLt a b = Op.bytesLess a b
  | _, [] => by cases ‹List UInt8› <;> rfl
  | [], _ :: _ => rfl
  | x :: a, y :: b => by
    unfold bytesLt Op.bytesLess
    rw [bytesLt_eq a b]
    have h1 : Nat.blt x.toNat y.toNat = decide (x < y) := by
      rw [Bool.eq_iff_iff, decide_eq_true_eq, UInt8.lt_iff_toNat_lt]; simp [Nat.blt]; omega
    have h2 : Nat.beq x.toNat y.toNat = (x == y) := by
      rw [Bool.eq_iff_iff, beq_iff_eq, Nat.beq_eq, UInt8.toNat_inj]
    rw [h1, h2]
    cases decide (x < y) <;> cases (x == y) <;> rfl

theorem bytesLess_total : ∀ (a b : List UInt8), (!(Op.bytesLess b a)) = (Op.bytesLess a b || a == b)
  | [], [] => rfl
  | [], _ :: _ => rfl
  | _ :: _, [] => rfl
  | x :: a, y :: b => by
    unfold Op.bytesLess
    rw [List.cons_beq_cons]
    have ih := bytesLess_total a b
    rcases Nat.lt_trichotomy x.toNat y.toNat with h | h | h
    · have h1 : decide (x < y) = true := by simpa [UInt8.lt_iff_toNat_lt] using h
      have h2 : decide (y < x) = false := by simp [UInt8.lt_iff_toNat_lt]; omega
      have h3 : (y == x) = false := by rw [beq_eq_false_iff_ne]; intro e; subst e; omega
      simp [h1, h2, h3]
    · have e : x = y := UInt8.toNat_inj.1 h
      subst e
      have h1 : decide (x < x) = false := by simp
      simp [h1, ← ih]
    · have h1 : decide (x < y) = false := by simp [UInt8.lt_iff_toNat_lt]; omega
      have h2 : decide (y < x) = true := by simpa [UInt8.lt_iff_toNat_lt] using h
      have h3 : (x == y) = false := by rw [beq_eq_false_iff_ne]; intro e; subst e; omega
      simp [h1, h2, h3]

theorem bytes_append (a b : ByteArray) : (a ++ b : ByteArray) = ⟨⟨a.data.toList ++ b.data.toList⟩⟩ := by
  apply ByteArray.ext
  rw [ByteArray.data_append]
  apply Array.ext'
  simp

theorem astr_sim {op : BinOp} {t : TypeId} {a b : ByteArray} {v : Value} (h : astr op a.data.toList b.data.toList = some v) :
    (binOp op t (.string a) (.string b)).run P w = .ok v w := by
  have e : binOp op t (.string a) (.string b) = Op.stringOp op a b := by cases op <;> rfl
  rw [e]
  unfold Op.stringOp
  rw [bytes_toList, bytes_toList]
  have tot := bytesLess_total a.data.toList b.data.toList
  have tot' := bytesLess_total b.data.toList a.data.toList
  cases op <;> simp only [astr, bytesEq_eq, bytesLt_eq, Option.some.injEq, reduceCtorEq] at h
  case add =>
    cases hb : Nat.ble (a.data.toList.length + b.data.toList.length) 1099511627776 with
    | false => rw [hb] at h; cases h
    | true =>
      rw [hb] at h; simp only [cond_true, Option.some.injEq] at h
      subst h
      have hle := Nat.le_of_ble_eq_true hb
      have h1 : a.data.toList.length = a.size := rfl
      have h2 : b.data.toList.length = b.size := rfl
      simp only
      rw [if_neg (by simp only [IntKind.max, IntKind.signed, IntKind.bits]; simp; omega), bytes_append]
      rfl
  all_goals
    subst h
    simp only [← tot]
    first
    | rfl
    | (simp only [Bool.not_not]; rfl)

theorem xor_all (k : IntKind) (n : Int) : Nat.xor (lowOf k (if k.signed then -1 else k.max)) (lowOf k n) = pow2 k - 1 - lowOf k n := by
  have hm : lowOf k (if k.signed then -1 else k.max) = pow2 k - 1 := by cases k <;> rfl
  rw [hm]
  have hl := lowOf_lt k n
  rw [pow2_eq] at *
  apply Nat.eq_of_testBit_eq
  intro i
  have h1 := Nat.testBit_two_pow_sub_succ hl i
  rw [show 2 ^ k.bits - 1 - lowOf k n = 2 ^ k.bits - (lowOf k n + 1) by omega, h1]
  show ((2 ^ k.bits - 1) ^^^ lowOf k n).testBit i = _
  rw [Nat.testBit_xor, Nat.testBit_two_pow_sub_one]
  by_cases hi : i < k.bits
  · simp [hi]
  · have : (lowOf k n).testBit i = false := Nat.testBit_lt_two_pow (Nat.lt_of_lt_of_le hl (Nat.pow_le_pow_right (by omega) (by omega)))
    simp [hi, this]

theorem aun_sim {op : UnOp} {x v : Value} (h : aun op x = some v) : (Op.unary op x).run P w = .ok v w := by
  cases op <;> cases x <;> simp only [aun, reduceCtorEq, Option.some.injEq] at h
  case neg.int k n =>
    subst h
    show Result.ok (Value.int k (k.wrap (0 - n))) w = _
    rw [wrapA_eq, Int.zero_sub]
  case xor.int k n =>
    subst h
    rw [← xor_all]
    exact run_intBits (op := .xor) (x := if k.signed then -1 else k.max) (y := n) rfl (xor_lt k _ _ (lowOf_lt _ _) (lowOf_lt _ _))
  case not.bool b => subst h; rfl
end
end Go.Mir

namespace Go.Mir
open Go
section
variable {P : Program} {ρ : Ren} {w : World}

theorem partT_sim {t : TypeId} {cs cs' : Array Value} {off : Nat} {v : Value} (hL : LRel ρ cs.toList cs'.toList) (h : partT P t cs off = some v) :
    ∃ v', (part t cs' off).run P w = .ok v' w ∧ VRel ρ v v' := by
  unfold partT at h
  unfold part
  cases ha : aggT P t with
  | none => rw [ha] at h; cases h
  | some g =>
    rw [ha] at h
    simp only [Sem.run_bind, run_isAgg ha, Result.andThen_ok]
    cases g with
    | false =>
      simp only at h
      obtain ⟨y, hy, hv⟩ := hL.get h
      have hy' : cs'[off]? = some y := by rw [← Array.getElem?_toList]; exact hy
      refine ⟨y, ?_, hv⟩
      simp only [Bool.false_eq_true, if_false, hy']
      rfl
    | true =>
      simp only at h
      cases hs : sizeT P t with
      | none => rw [hs] at h; cases h
      | some n =>
        rw [hs] at h; simp only [Option.some.injEq] at h
        subst h
        have hL' := (hL.drop off).take n
        have e : (cs'.extract off (off + n)).toList = (cs'.toList.drop off).take n := by
          rw [Array.toList_extract, List.extract_eq_take_drop]
          congr 1; omega
        refine ⟨.agg (cs'.extract off (off + n)), ?_, .agg _ _ ?_ ?_⟩
        · simp only [if_true, Sem.run_bind, run_size hs, Result.andThen_ok]; rfl
        · rw [e]; exact hL'.1
        · rw [e]; exact hL'.2

set_option maxHeartbeats 1000000 in
theorem aeq_sim : ∀ (d d' : Nat) (t : TypeId) (x y x' y' : Value) (b : Bool), d ≤ d' → aeq P d t x y = some b → VRel ρ x x' → VRel ρ y y' → (Op.equalIn d' t x' y').run P w = .ok b w := by
  intro d
  induction d with
  | zero => intro d' t x y x' y' b _ h; cases h
  | succ d ih =>
    intro d' t x y x' y' b hd h hx hy
    obtain ⟨d', rfl⟩ : ∃ m, d' = m + 1 := ⟨d' - 1, by omega⟩
    unfold aeq at h
    cases hu : P.underlying t with
    | none => rw [hu] at h; simp at h
    | some D =>
      rw [hu] at h
      have hU := run_und (P := P) (w := w) hu
      split at h
      case h_1 =>
        rename_i e; cases e; cases hx; cases hy; cases h
        (unfold Op.equalIn; simp only [Sem.run_bind, hU, Result.andThen_ok]; rfl)
      case h_2 =>
        rename_i k a k' c e
        cases e; cases hx; cases hy
        cases hk : kindEq k k' with
        | false => rw [hk] at h; cases h
        | true =>
          rw [hk] at h; cases h
          obtain rfl := kindEq_iff.1 hk
          rw [intEq_eq]; (unfold Op.equalIn; simp only [Sem.run_bind, hU, Result.andThen_ok]; rfl)
      case h_3 =>
        rename_i e; cases e; cases hx; cases hy; cases h
        rw [bytesEq_eq, run_equalIn_string w d' t _ _ hu, ByteArray.toList_eq, ByteArray.toList_eq]
      case h_4 =>
        rename_i e; cases e; cases hx; cases h
        cases hy <;> (unfold Op.equalIn; simp only [Sem.run_bind, hU, Result.andThen_ok]; rfl)
      case h_5 => rename_i e; cases e; cases h; cases hy; cases hx; (unfold Op.equalIn; simp only [Sem.run_bind, hU, Result.andThen_ok]; rfl)
      case h_6 => rename_i e; cases e; cases h; cases hy; cases hx; (unfold Op.equalIn; simp only [Sem.run_bind, hU, Result.andThen_ok]; rfl)
      case h_7 => rename_i e; cases e; cases h; cases hy; cases hx; (unfold Op.equalIn; simp only [Sem.run_bind, hU, Result.andThen_ok]; rfl)
      case h_8 => rename_i e; cases e; cases h; cases hy; cases hx; (unfold Op.equalIn; simp only [Sem.run_bind, hU, Result.andThen_ok]; rfl)
      case h_9 =>
        rename_i tx vx ty vy e
        cases e
        cases hx with
        | iface _ _ vx' hvx =>
        cases hy with
        | iface _ _ vy' hvy =>
        unfold aeqIface at h
        cases ht : Nat.beq tx ty with
        | false =>
          rw [ht] at h; cases h
          have : tx ≠ ty := fun e => by subst e; simp at ht
          simp [Op.equalIn, hU, this]
        | true =>
          rw [ht] at h
          obtain rfl := Nat.eq_of_beq_eq_true ht
          cases hi : P.info? tx with
          | none => rw [hi] at h; cases h
          | some i =>
            rw [hi] at h
            simp only [cond_true] at h
            cases hc : i.comparable with
            | false => rw [hc] at h; cases h
            | true =>
              rw [hc] at h
              have := ih d' tx vx vy vx' vy' b (by omega) h hvx hvy
              simp [Op.equalIn, hU, run_info hi, hc, this]
      case h_10 =>
        rename_i fields xs ys e
        cases e
        cases hx with
        | agg _ xs' hl1 hh1 =>
        cases hy with
        | agg _ ys' hl2 hh2 =>
        cases hp : P.stoodInHeld t with
        | true => rw [hp] at h; cases h
        | false =>
          rw [hp] at h
          simp only [cond_false] at h
          have hf : P.fieldsOf t = fields := by unfold Program.fieldsOf; rw [hu]
          rw [run_equalIn_struct w d' t xs' ys' (by rw [hf]; exact hu) hp, hf]
          generalize fields.toList = fs at h
          clear hf hu hU
          induction fs with
          | nil => cases h; rfl
          | cons f fs ihf =>
            unfold aeqFields at h
            unfold Op.eqFields
            by_cases hn : f.name ≠ "_"
            · rw [if_pos hn] at h
              rw [if_pos hn]
              cases h1 : partT P f.type xs f.offset with
              | none => rw [h1] at h; cases h
              | some a =>
                cases h2 : partT P f.type ys f.offset with
                | none => rw [h1, h2] at h; cases h
                | some c =>
                  rw [h1, h2] at h; simp only at h
                  obtain ⟨a', ra, hva⟩ := partT_sim (w := w) (ρ := ρ) (cs' := xs') ⟨hl1, hh1⟩ h1
                  obtain ⟨c', rc, hvc⟩ := partT_sim (w := w) (ρ := ρ) (cs' := ys') ⟨hl2, hh2⟩ h2
                  cases h3 : aeq P d f.type a c with
                  | none => rw [h3] at h; cases h
                  | some r =>
                    rw [h3] at h
                    have hr := ih d' f.type a c a' c' r (by omega) h3 hva hvc
                    simp only [Sem.run_bind, ra, rc, hr, Result.andThen_ok, Sem.run_ite]
                    cases r with
                    | true => simp only [Bool.not_true, Bool.false_eq_true, if_false]; exact ihf h
                    | false => cases h; rfl
            · rw [if_neg hn] at h
              rw [if_neg hn]
              exact ihf h
      case h_11 =>
        rename_i len elem xs ys e
        cases e
        cases hx with
        | agg _ xs' hl1 hh1 =>
        cases hy with
        | agg _ ys' hl2 hh2 =>
        cases hs : sizeT P elem with
        | none => rw [hs] at h; cases h
        | some n =>
          rw [hs] at h; simp only at h
          simp only [Op.equalIn, Sem.run_bind, hU, Result.andThen_ok, run_size hs]
          rw [Std.Legacy.Range.forIn_eq_forIn_range']
          simp only [Std.Legacy.Range.size, Nat.sub_zero, Nat.add_sub_cancel, Nat.div_one]
          generalize List.range' 0 len = is at h
          clear hu hU
          induction is with
          | nil => cases h; rfl
          | cons i is ihi =>
            unfold aeqElems at h
            rw [List.forIn_cons]
            cases h1 : partT P elem xs (i * n) with
            | none => rw [h1] at h; cases h
            | some a =>
              cases h2 : partT P elem ys (i * n) with
              | none => rw [h1, h2] at h; cases h
              | some c =>
                rw [h1, h2] at h; simp only at h
                obtain ⟨a', ra, hva⟩ := partT_sim (w := w) (ρ := ρ) (cs' := xs') ⟨hl1, hh1⟩ h1
                obtain ⟨c', rc, hvc⟩ := partT_sim (w := w) (ρ := ρ) (cs' := ys') ⟨hl2, hh2⟩ h2
                cases h3 : aeq P d elem a c with
                | none => rw [h3] at h; cases h
                | some r =>
                  rw [h3] at h
                  have hr := ih d' elem a c a' c' r (by omega) h3 hva hvc
                  simp only [Sem.run_bind, ra, rc, hr, Result.andThen_ok, Sem.run_ite]
                  cases r with
                  | true => simp only [Bool.not_true, Bool.false_eq_true, if_false, Sem.run_pure, Result.andThen_ok]; exact ihi h
                  | false => cases h; simp
      case h_12 => rename_i e; cases e; cases hx; cases h; cases hy <;> (unfold Op.equalIn; simp only [Sem.run_bind, hU, Result.andThen_ok]; rfl)
      case h_13 => rename_i e; cases e; cases h; cases hy; cases hx <;> (unfold Op.equalIn; simp only [Sem.run_bind, hU, Result.andThen_ok]; rfl)
      case h_14 => rename_i e; cases e; cases hx; cases h; cases hy <;> (unfold Op.equalIn; simp only [Sem.run_bind, hU, Result.andThen_ok]; rfl)
      case h_15 => rename_i e; cases e; cases h; cases hy; cases hx; (unfold Op.equalIn; simp only [Sem.run_bind, hU, Result.andThen_ok]; rfl)
      case h_16 => rename_i e; cases e; cases h; cases hy; cases hx; (unfold Op.equalIn; simp only [Sem.run_bind, hU, Result.andThen_ok]; rfl)
      case h_17 => rename_i e; cases e; cases h; cases hx; cases hy <;> (unfold Op.equalIn; simp only [Sem.run_bind, hU, Result.andThen_ok]; rfl)
      case h_18 => rename_i e; cases e; cases h; cases hy; cases hx <;> (unfold Op.equalIn; simp only [Sem.run_bind, hU, Result.andThen_ok]; rfl)
      case h_19 => cases h
end
end Go.Mir

namespace Go.Mir
open Go
section
variable {P : Program} {ρ : Ren} {S : St} {w : World}

theorem run_eqGuard_plain {op : BinOp} {t : TypeId} {x y : Operand} {a b : Value} (h1 : ¬ (a = .nilIface ∧ b = .nilIface)) (h2 : ∀ xs ys, ¬ (a = .agg xs ∧ b = .agg ys)) :
    (eqGuard op t x y a b).run P w = .ok () w := by
  unfold eqGuard
  cases op <;> first
    | rfl
    | (simp only [Sem.run_bind]
       cases a <;> cases b <;> first
         | rfl
         | exact absurd ⟨rfl, rfl⟩ h1
         | exact absurd ⟨rfl, rfl⟩ (h2 _ _))

theorem abinOther_sim {op : BinOp} {t : TypeId} {xo yo : Operand} {x y x' y' v : Value} (hx : VRel ρ x x') (hy : VRel ρ y y') (hi : ∀ k a k' b, ¬ (x = .int k a ∧ y = .int k' b)) (hs : ∀ a b, ¬ (x = .string a ∧ y = .string b))
    (h : abinOther P op t xo yo x y = some v) : (do eqGuard op t xo yo x' y'; binOp op t x' y' : Sem Value).run P w = .ok v w := by
  unfold abinOther at h
  cases hg : eqGuardA P t xo yo x y with
  | false => rw [hg] at h; cases h
  | true =>
    rw [hg] at h; simp only [cond_true] at h
    -- the answer of the equality
    have main : ∃ b : Bool, aeq P 20 t x y = some b ∧ ((op = .eql ∧ v = .bool b) ∨ (op = .neq ∧ v = .bool (!b))) := by
      cases op <;> simp only [reduceCtorEq] at h
      · cases ha : aeq P 20 t x y with
        | none => rw [ha] at h; cases h
        | some b => rw [ha] at h; cases h; exact ⟨b, rfl, .inl ⟨rfl, rfl⟩⟩
      · cases ha : aeq P 20 t x y with
        | none => rw [ha] at h; cases h
        | some b => rw [ha] at h; cases h; exact ⟨b, rfl, .inr ⟨rfl, rfl⟩⟩
    obtain ⟨b, ha, hv⟩ := main
    have heq := aeq_sim (P := P) (w := w) 20 Op.maxDepth t x y x' y' b (by decide) ha hx hy
    have hx0 : x ≠ undef := by
      intro e; subst e; unfold aeq at ha
      cases hu : P.underlying t with
      | none => rw [hu] at ha; simp [undef] at ha
      | some D => rw [hu] at ha; cases D <;> simp [undef] at ha
    have hy0 : y ≠ undef := by
      intro e; subst e; unfold aeq at ha
      cases hu : P.underlying t with
      | none => rw [hu] at ha; simp [undef] at ha
      | some D => rw [hu] at ha; cases D <;> simp [undef] at ha <;> (split at ha <;> simp_all)
    have hguard : (eqGuard op t xo yo x' y').run P w = .ok () w := by
      by_cases h1 : x' = .nilIface ∧ y' = .nilIface
      · obtain ⟨rfl, rfl⟩ := h1
        have ex : x = .nilIface := by cases hx <;> first | rfl | exact absurd rfl hx0
        have ey : y = .nilIface := by cases hy <;> first | rfl | exact absurd rfl hy0
        subst ex; subst ey
        simp only [eqGuardA] at hg
        clear h hv heq
        cases xo <;> cases yo <;> first
          | (simp [isConst] at hg; done)
          | (unfold eqGuard; cases op <;> rfl)
      · by_cases h2 : ∃ xs ys, x' = .agg xs ∧ y' = .agg ys
        · obtain ⟨xs, ys, rfl, rfl⟩ := h2
          have ex : ∃ cs, x = .agg cs := by cases hx <;> first | exact ⟨_, rfl⟩ | exact absurd rfl hx0
          have ey : ∃ cs, y = .agg cs := by cases hy <;> first | exact ⟨_, rfl⟩ | exact absurd rfl hy0
          obtain ⟨cs, rfl⟩ := ex
          obtain ⟨ds, rfl⟩ := ey
          simp only [eqGuardA, Bool.not_eq_true'] at hg
          exact run_eqGuard_agg w op t xo yo xs ys hg
        · exact run_eqGuard_plain h1 (fun xs ys e => h2 ⟨xs, ys, e⟩)
    have hbin : (binOp op t x' y').run P w = .ok v w := by
      have hni : ∀ k a k' b, ¬ (x' = .int k a ∧ y' = .int k' b) := by
        rintro k a k' b ⟨rfl, rfl⟩
        cases hx with
        | any => exact hx0 rfl
        | int => cases hy with
          | any => exact hy0 rfl
          | int => exact hi _ _ _ _ ⟨rfl, rfl⟩
      have hns : ∀ a b, ¬ (x' = .string a ∧ y' = .string b) := by
        rintro a b ⟨rfl, rfl⟩
        cases hx with
        | any => exact hx0 rfl
        | string => cases hy with
          | any => exact hy0 rfl
          | string => exact hs _ _ ⟨rfl, rfl⟩
      have hnf : ∀ k a, x' ≠ .float k a := by rintro k a rfl; cases hx; exact hx0 rfl
      have hnc : ∀ k a c, x' ≠ .complex k a c := by rintro k a c rfl; cases hx; exact hx0 rfl
      rcases hv with ⟨rfl, rfl⟩ | ⟨rfl, rfl⟩
      · have e : binOp .eql t x' y' = (do pure (.bool (← Op.equal t x' y'))) := by
          cases x' <;> cases y' <;> first
            | rfl
            | exact absurd ⟨rfl, rfl⟩ (hni _ _ _ _)
            | exact absurd ⟨rfl, rfl⟩ (hns _ _)
            | exact absurd rfl (hnf _ _)
            | exact absurd rfl (hnc _ _ _)
        rw [e]
        simp only [Sem.run_bind, Op.equal, heq, Result.andThen_ok, Sem.run_pure]
      · have e : binOp .neq t x' y' = (do pure (.bool (!(← Op.equal t x' y')))) := by
          cases x' <;> cases y' <;> first
            | rfl
            | exact absurd ⟨rfl, rfl⟩ (hni _ _ _ _)
            | exact absurd ⟨rfl, rfl⟩ (hns _ _)
            | exact absurd rfl (hnf _ _)
            | exact absurd rfl (hnc _ _ _)
        rw [e]
        simp only [Sem.run_bind, Op.equal, heq, Result.andThen_ok, Sem.run_pure]
    simp only [Sem.run_bind, hguard, Result.andThen_ok, hbin]

theorem abin_sim {op : BinOp} {t : TypeId} {xo yo : Operand} {x y x' y' v : Value} (hx : VRel ρ x x') (hy : VRel ρ y y') (h : abin P op t xo yo x y = some v) :
    (do eqGuard op t xo yo x' y'; binOp op t x' y' : Sem Value).run P w = .ok v w := by
  unfold abin at h
  split at h
  · rename_i k a k' b
    cases hx; cases hy
    simp only [Sem.run_bind, run_eqGuard_plain (a := .int k a) (b := .int k' b) (by rintro ⟨h, _⟩; cases h) (by rintro _ _ ⟨h, _⟩; cases h), Result.andThen_ok]
    exact aint_sim h
  · rename_i a b
    cases hx; cases hy
    simp only [Sem.run_bind, run_eqGuard_plain (a := .string a) (b := .string b) (by rintro ⟨h, _⟩; cases h) (by rintro _ _ ⟨h, _⟩; cases h), Result.andThen_ok]
    exact astr_sim h
  · rename_i h1 h2
    exact abinOther_sim hx hy (fun k a k' b e => h1 k a k' b e.1 e.2) (fun a b e => h2 a b e.1 e.2) h
end
end Go.Mir

namespace Go.Mir
open Go

inductive OptRel (ρ : Ren) : Option Value → Option Value → Prop
  | none : OptRel ρ none none
  | some (x y : Value) (h : VRel ρ x y) : OptRel ρ (some x) (some y)

section
variable {P : Program} {ρ : Ren} {S : St} {w : World}

theorem abnd_sim {v v' : Option Value} {dflt top top' n : Nat} {code : BoundsCode} (hv : OptRel ρ v v') (ht : top ≤ top') (h : abnd v dflt top = some n) :
    (v = none ∧ v' = none ∧ n = dflt) ∨ (∃ x', v' = some x' ∧ v ≠ none ∧ (Instr.sliceBound x' top' code).run P w = .ok n w ∧ n ≤ top) := by
  cases hv with
  | none => cases h; exact .inl ⟨rfl, rfl, rfl⟩
  | some x y hxy =>
    right
    unfold abnd at h
    cases x <;> first | (exact absurd h (by simp)) | skip
    rename_i k i
    cases i with
    | negSucc m => simp at h
    | ofNat m =>
      replace h : (bif Nat.ble m top then some m else none) = some n := h
      cases hb : Nat.ble m top with
      | false => rw [hb] at h; cases h
      | true =>
        rw [hb] at h; cases h
        have hle := Nat.le_of_ble_eq_true hb
        cases hxy
        refine ⟨_, rfl, by simp, ?_, hle⟩
        unfold Instr.sliceBound
        simp only [Sem.run_bind, asIntOf, Sem.run_pure, Result.andThen_ok]
        rw [if_pos (by constructor <;> simp <;> omega)]
        rfl

/-- The bounds: the same; the capacity, where none is told, is the concrete one. -/
theorem abounds_sim {isSlice : Bool} {len cap cap' : Nat} {lo hi mx lo' hi' mx' : Option Value} {l h m : Nat} (hlo : OptRel ρ lo lo') (hhi : OptRel ρ hi hi') (hmx : OptRel ρ mx mx') (hc : cap ≤ cap')
    (he : abounds len cap lo hi mx = some (l, h, m)) :
    ∃ m', (Instr.sliceBounds isSlice len cap' lo' hi' mx').run P w = .ok (l, h, m') w ∧ ((mx = none ∧ m = cap ∧ m' = cap') ∨ m' = m) ∧ (lo = none → l = 0) := by
  unfold abounds at he
  cases h1 : abnd mx cap cap with
  | none => rw [h1] at he; cases he
  | some m0 =>
    rw [h1] at he; simp only at he
    cases h2 : abnd hi (hiD mx len) m0 with
    | none => rw [h2] at he; simp at he
    | some h0 =>
      rw [h2] at he
      unfold Instr.sliceBounds
      cases hmx with
      | none =>
        simp only [abnd, Option.some.injEq] at h1
        subst h1
        simp only [hiD] at he h2
        cases h3 : abnd lo 0 h0 with
        | none => rw [h3] at he; simp at he
        | some l0 =>
          rw [h3] at he
          simp only [Option.some.injEq, Prod.mk.injEq] at he
          obtain ⟨rfl, rfl, rfl⟩ := he
          rcases abnd_sim (P := P) (w := w) (top' := cap') (code := if isSlice then .sliceAcap else .sliceAlen) hhi hc h2 with ⟨rfl, rfl, rfl⟩ | ⟨x', rfl, _, hr, _⟩
          · rcases abnd_sim (P := P) (w := w) (top' := h0) (code := .sliceB) hlo (Nat.le_refl _) h3 with ⟨rfl, rfl, rfl⟩ | ⟨y', rfl, hn, hr', _⟩
            · exact ⟨cap', by simp [Sem.run_bind], .inl ⟨rfl, rfl, rfl⟩, fun _ => rfl⟩
            · exact ⟨cap', by simp [Sem.run_bind, hr'], .inl ⟨rfl, rfl, rfl⟩, fun e => absurd e hn⟩
          · rcases abnd_sim (P := P) (w := w) (top' := h0) (code := .sliceB) hlo (Nat.le_refl _) h3 with ⟨rfl, rfl, rfl⟩ | ⟨y', rfl, hn, hr', _⟩
            · exact ⟨cap', by simp [Sem.run_bind, hr], .inl ⟨rfl, rfl, rfl⟩, fun _ => rfl⟩
            · exact ⟨cap', by simp [Sem.run_bind, hr, hr'], .inl ⟨rfl, rfl, rfl⟩, fun e => absurd e hn⟩
      | some x y hxy =>
        rcases abnd_sim (P := P) (w := w) (top' := cap') (code := if isSlice then .slice3Acap else .slice3Alen) (OptRel.some x y hxy) hc h1 with ⟨e, _, _⟩ | ⟨_, e, _, hrm, _⟩
        · cases e
        · cases e
          cases hhi with
          | none => simp at he
          | some u v huv =>
            simp only at he
            cases h3 : abnd lo 0 h0 with
            | none => rw [h3] at he; simp at he
            | some l0 =>
              rw [h3] at he
              simp only [Option.some.injEq, Prod.mk.injEq] at he
              obtain ⟨rfl, rfl, rfl⟩ := he
              rcases abnd_sim (P := P) (w := w) (top' := m0) (code := .slice3B) (OptRel.some u v huv) (Nat.le_refl _) h2 with ⟨e, _, _⟩ | ⟨_, e, _, hrh, _⟩
              · cases e
              · cases e
                rcases abnd_sim (P := P) (w := w) (top' := h0) (code := .slice3C) hlo (Nat.le_refl _) h3 with ⟨rfl, rfl, rfl⟩ | ⟨y', rfl, hn, hr', _⟩
                · exact ⟨m0, by simp [Sem.run_bind, hrm, hrh], .inr rfl, fun _ => rfl⟩
                · exact ⟨m0, by simp [Sem.run_bind, hrm, hrh, hr'], .inr rfl, fun e => absurd e hn⟩

theorem abounds_le {len cap : Nat} {lo hi mx : Option Value} {l h m : Nat} (hl : len ≤ cap ∨ hi ≠ none) (he : abounds len cap lo hi mx = some (l, h, m)) : l ≤ h ∧ m ≤ cap ∧ h ≤ m := by
  have bnd : ∀ {v : Option Value} {d top n : Nat}, abnd v d top = some n → (v = none ∧ n = d) ∨ n ≤ top := by
    intro v d top n hn
    unfold abnd at hn
    split at hn
    · cases hn; exact .inl ⟨rfl, rfl⟩
    · rename_i k
      cases hb : Nat.ble k top with
      | false => rw [hb] at hn; cases hn
      | true => rw [hb] at hn; cases hn; exact .inr (Nat.le_of_ble_eq_true hb)
    · cases hn
  unfold abounds at he
  cases h1 : abnd mx cap cap with
  | none => rw [h1] at he; cases he
  | some m0 =>
    rw [h1] at he; simp only at he
    cases h2 : abnd hi (hiD mx len) m0 with
    | none => rw [h2] at he; simp at he
    | some h0 =>
      rw [h2] at he
      have hm : m0 ≤ cap := by rcases bnd h1 with ⟨_, e⟩ | e <;> omega
      cases h3 : abnd lo 0 h0 with
      | none => exfalso; cases mx <;> cases hi <;> simp [h3] at he
      | some l0 =>
        have h4 : l0 ≤ h0 := by rcases bnd h3 with ⟨_, e⟩ | e <;> omega
        have h5 : l = l0 ∧ h = h0 ∧ m = m0 ∧ ¬ (mx ≠ none ∧ hi = none) := by cases mx <;> cases hi <;> simp [h3] at he ⊢ <;> (obtain ⟨rfl, rfl, rfl⟩ := he; exact ⟨rfl, rfl, rfl⟩)
        obtain ⟨rfl, rfl, rfl, hno⟩ := h5
        refine ⟨h4, hm, ?_⟩
        rcases bnd h2 with ⟨rfl, e⟩ | e
        · cases mx with
          | some x => exact absurd ⟨by simp, rfl⟩ hno
          | none =>
            simp only [hiD] at e
            simp only [abnd, Option.some.injEq] at h1
            rcases hl with hl | hl
            · omega
            · exact absurd rfl hl
        · exact e

/-- The result's address lies as the abstract one: cut by cells. -/
theorem cut_slice {b o l : Nat} {p : Place} (hb : ρ b = some p) (k m m' sz : Nat) (hk : k ≤ m - l) (hle : l ≤ m) (hm : m' = m ∨ (o + m * p.esz = p.top ∧ m ≤ m' ∧ m' ≤ m + p.extra ∧ (l = 0 ∨ p.esz = sz))) :
    VRel ρ (.slice (some ((⟨b, o, none⟩ : Addr).add (l * sz))) k (m - l)) (.slice (some (if m' = l then (⟨p.blk, p.off + o, none⟩ : Addr) else (⟨p.blk, p.off + o, none⟩ : Addr).add (l * sz))) k (m' - l)) := by
  rw [addr_add, addr_add]
  by_cases e : m' = l
  · rw [if_pos e]
    have h1 : m = l := by rcases hm with h | ⟨_, h, _⟩ <;> omega
    subst h1; subst e
    have hk0 : k = 0 := by omega
    subst hk0
    simp only [Nat.sub_self]
    exact .slice0 _ _
  · rw [if_neg e, show p.off + o + l * sz = p.off + (o + l * sz) by omega]
    refine .slice b (o + l * sz) k (m - l) (m' - l) p hb ?_
    rcases hm with rfl | ⟨h1, h2, h3, h4⟩
    · exact .inl rfl
    · right
      refine ⟨?_, by omega, by omega⟩
      rcases h4 with rfl | rfl
      · simpa using h1
      · rw [← h1, Nat.add_assoc, ← Nat.add_mul]; congr 2; omega

theorem asliceArr_sim {n : Nat} {elem : TypeId} {b o : Nat} {p : Place} {lo hi mx lo' hi' mx' : Option Value} {v : Value} (hb : ρ b = some p) (hlo : OptRel ρ lo lo') (hhi : OptRel ρ hi hi') (hmx : OptRel ρ mx mx')
    (h : asliceArr P n elem ⟨b, o, none⟩ lo hi mx = some v) :
    ∃ v', (do
        let (l, h, m) ← Instr.sliceBounds false n n lo' hi' mx'
        let size ← sizeOf elem
        pure (.slice (some (if m = l then (⟨p.blk, p.off + o, none⟩ : Addr) else (⟨p.blk, p.off + o, none⟩ : Addr).add (l * size))) (h - l) (m - l)) : Sem Value).run P w = .ok v' w ∧ VRel ρ v v' := by
  unfold asliceArr at h
  cases h1 : abounds n n lo hi mx with
  | none => rw [h1] at h; cases h
  | some t =>
    obtain ⟨l, hh, m⟩ := t
    rw [h1] at h
    cases h2 : sizeT P elem with
    | none => rw [h2] at h; cases h
    | some sz =>
      rw [h2] at h; cases h
      obtain ⟨m', hr, hm, _⟩ := abounds_sim (P := P) (w := w) (isSlice := false) hlo hhi hmx (Nat.le_refl n) h1
      have hmm : m' = m := by rcases hm with ⟨_, rfl, rfl⟩ | rfl <;> rfl
      subst hmm
      obtain ⟨q1, q2, q3⟩ := abounds_le (.inl (Nat.le_refl n)) h1
      simp only [Sem.run_bind, hr, Result.andThen_ok, run_size h2, Sem.run_pure]
      exact ⟨_, rfl, cut_slice hb _ _ _ _ (by omega) (by omega) (.inl rfl)⟩

theorem mayCut_sim (hR : Rel P ρ S w) {b sz : Nat} {p : Place} (hb : ρ b = some p) (h : mayCut P S b sz = true) : p.extra = 0 ∨ p.esz = sz := by
  unfold mayCut at h
  cases hx : S.get b with
  | none => rw [hx] at h; cases h
  | some x =>
    have hB := hR.blk b p x hb hx
    rw [hx] at h
    have size : ∀ e, (P.info? e).map (·.size) = some p.esz → (match sizeT P e with | some n => Nat.beq n sz | none => false) = true → p.esz = sz := by
      intro e h1 h2
      unfold sizeT at h2
      rw [h1] at h2
      exact Nat.eq_of_beq_eq_true h2
    cases x with
    | cells cs e g =>
      obtain ⟨C, F, _, _, _, _, _, hg, hsz⟩ := hB
      cases g with
      | false => exact .inl (hg rfl)
      | true => exact .inr (size e hsz h)
    | ro cs e => obtain ⟨C, _, F, _, _, _, hsz, _⟩ := hB; exact .inr (size e hsz h)
    | obj o => cases h
    | dead => cases h

theorem asliceSlice_sim (hR : Rel P ρ S w) {elem : TypeId} {a a' : Option Addr} {len cap cap' : Nat} {lo hi mx lo' hi' mx' : Option Value} {v : Value} (hx : VRel ρ (.slice a len cap) (.slice a' len cap'))
    (hlo : OptRel ρ lo lo') (hhi : OptRel ρ hi hi') (hmx : OptRel ρ mx mx') (h : asliceSlice P S elem a len cap lo hi mx = some v) :
    ∃ v', (do
        let (l, h, m) ← Instr.sliceBounds true len cap' lo' hi' mx'
        let size ← sizeOf elem
        pure (.slice (if m = l then a' else a'.map (·.add (l * size))) (h - l) (m - l)) : Sem Value).run P w = .ok v' w ∧ VRel ρ v v' := by
  unfold asliceSlice at h
  cases h1 : abounds len cap lo hi mx with
  | none => rw [h1] at h; cases h
  | some t =>
    obtain ⟨l, hh, m⟩ := t
    rw [h1] at h
    cases h2 : sizeT P elem with
    | none => rw [h2] at h; cases h
    | some sz =>
      rw [h2] at h; simp only at h
      have hl : len ≤ cap := by
        cases a with
        | none =>
          cases hb : Nat.ble len cap with
          | false => rw [hb] at h; cases h
          | true => exact Nat.le_of_ble_eq_true hb
        | some a =>
          cases hb : Nat.ble len cap with
          | false => rw [hb] at h; simp at h
          | true => exact Nat.le_of_ble_eq_true hb
      have hlb : Nat.ble len cap = true := Nat.ble_eq_true_of_le hl
      rw [hlb] at h
      simp only [Bool.and_true] at h
      obtain ⟨q1, q2, q3⟩ := abounds_le (.inl hl) h1
      have hcap : cap ≤ cap' := by
        cases hx with
        | sliceNil => exact Nat.le_refl _
        | slice0 => exact Nat.le_refl _
        | slice b o l c c' p hb hc => rcases hc with rfl | ⟨_, hc, _⟩ <;> omega
      obtain ⟨m', hr, hm, _⟩ := abounds_sim (P := P) (w := w) (isSlice := true) hlo hhi hmx hcap h1
      simp only [Sem.run_bind, hr, Result.andThen_ok, run_size h2, Sem.run_pure]
      cases hx with
      | sliceNil =>
        simp only [cond_true, Option.some.injEq] at h
        subst h
        have hmm : m' = m := by rcases hm with ⟨_, rfl, rfl⟩ | rfl <;> rfl
        subst hmm
        refine ⟨_, rfl, ?_⟩
        simp only [Option.map_none, ite_self]
        exact .sliceNil _ _
      | slice0 a a' =>
        simp only at h
        cases hc : (Nat.beq l 0 || mayCut P S a.block sz) with
        | false => rw [hc] at h; cases h
        | true =>
          rw [hc] at h; cases h
          have hmm : m' = m := by rcases hm with ⟨_, rfl, rfl⟩ | rfl <;> rfl
          subst hmm
          have e1 : m' = 0 := by omega
          have e2 : hh = 0 := by omega
          have e3 : l = 0 := by omega
          subst e1; subst e2; subst e3
          refine ⟨_, rfl, ?_⟩
          simp only [if_true, Nat.sub_self]
          exact .slice0 _ _
      | slice b o _ _ _ p hb hc =>
        simp only at h
        cases hc' : (Nat.beq l 0 || mayCut P S b sz) with
        | false => rw [hc'] at h; cases h
        | true =>
          rw [hc'] at h; cases h
          refine ⟨_, rfl, ?_⟩
          have := cut_slice (ρ := ρ) (b := b) (o := o) (l := l) hb (hh - l) m m' sz (by omega) (by omega) (by
            rcases hm with ⟨_, rfl, rfl⟩ | rfl
            · rcases hc with hc | ⟨g1, g2, g3⟩
              · exact .inl hc
              · simp only [Bool.or_eq_true] at hc'
                rcases hc' with hc' | hc'
                · exact .inr ⟨g1, g2, g3, .inl (Nat.eq_of_beq_eq_true hc')⟩
                · rcases mayCut_sim hR hb hc' with e | e
                  · exact .inl (by omega)
                  · exact .inr ⟨g1, g2, g3, .inr e⟩
            · exact .inl rfl)
          simp only [Option.map_some]
          by_cases e : m' = l
          · rw [if_pos e] at this ⊢; exact this
          · rw [if_neg e] at this ⊢; exact this
end
end Go.Mir

namespace Go.Mir
open Go

/-- What an operation that gives a value comes to. -/
def ValSim (P : Program) (ρ : Ren) (S : St) (w : World) (v : Value) (S' : St) (r : Result Next) : Prop :=
  ∃ v' w' ρ', (r = .ok (.value v') w' ∨ (r = .ok .skip w' ∧ v' = undef)) ∧ VRel ρ' v v' ∧ Rel P ρ' S' w' ∧ Step ρ S w ρ' S' w'

section
variable {P : Program} {ρ : Ren} {S S' : St} {w : World}

theorem vrun {s : Sem Value} {v : Value} {w' : World} (h : s.run P w = .ok v w') : (do pure (Next.value (← s)) : Sem Next).run P w = .ok (.value v) w' := by
  simp only [Sem.run_bind, h, Result.andThen_ok, Sem.run_pure]

theorem ValSim.reg (hR : Rel P ρ S w) {s : Sem Value} {v v' : Value} (h : s.run P w = .ok v' w) (hv : VRel ρ v v') : ValSim P ρ S w v S ((do pure (Next.value (← s)) : Sem Next).run P w) :=
  ⟨v', w, ρ, .inl (vrun h), hv, hR, .refl _ _ _⟩

theorem ValSim.mem {s : Sem Value} {v v' : Value} {w' : World} {ρ' : Ren} (h : s.run P w = .ok v' w') (hv : VRel ρ' v v') (hR : Rel P ρ' S' w') (hs : Step ρ S w ρ' S' w') :
    ValSim P ρ S w v S' ((do pure (Next.value (← s)) : Sem Next).run P w) :=
  ⟨v', w', ρ', .inl (vrun h), hv, hR, hs⟩

theorem ValSim.skip {s : Sem Unit} {w' : World} {ρ' : Ren} (h : s.run P w = .ok () w') (hR : Rel P ρ' S' w') (hs : Step ρ S w ρ' S' w') :
    ValSim P ρ S w undef S' ((do s; pure Next.skip : Sem Next).run P w) :=
  ⟨undef, w', ρ', .inr ⟨by simp only [Sem.run_bind, h, Result.andThen_ok, Sem.run_pure], rfl⟩, .any _, hR, hs⟩

theorem plain_cells {z : Value} (h : plainV z = true) : z.cells.toList.all plain1 = true := by
  cases z <;> first
    | exact h
    | (simp only [Value.cells, List.all_cons, List.all_nil, Bool.and_true]; exact h)
theorem plain1_one {v : Value} (h : plain1 v = true) : Mir.oneCell v = true := by cases v <;> first | rfl | cases h
theorem plain_zero (ρ : Ren) {z : Value} (h : plainV z = true) : LRel ρ z.cells.toList z.cells.toList := LRel.plain ρ (plain_cells h)

/-! ### build -/
theorem foldl_set (off : Nat) : ∀ (l : List Value) (k : Nat) (C : Array Value), off + k + l.length ≤ C.size →
    (l.zipIdx k).foldl (fun cs (x : Value × Nat) => cs.setIfInBounds (off + x.2) x.1) C = ⟨splice C.toList (off + k) l⟩
  | [], k, C, _ => by unfold splice; simp
  | v :: l, k, C, h => by
    simp only [List.length_cons] at h
    rw [List.zipIdx_cons, List.foldl_cons, foldl_set off l (k + 1) _ (by simp; omega)]
    congr 1
    have := splice_cons C.toList (off + k) v l (by simpa using by omega)
    simp only [Array.toList_setIfInBounds]
    rw [← this]; rfl

theorem fill_step (off : Nat) (v : Value) (C : Array Value) (h : off + v.cells.size ≤ C.size) :
    v.cells.zipIdx.foldl (fun cs (x : Value × Nat) => cs.setIfInBounds (off + x.2) x.1) C = ⟨splice C.toList off v.cells.toList⟩ := by
  rw [← Array.foldl_toList, Array.toList_zipIdx]
  exact foldl_set off v.cells.toList 0 C (by simpa using h)

inductive PRel (ρ : Ren) : List (Nat × Value) → List (Nat × Value) → Prop
  | nil : PRel ρ [] []
  | cons (i : Nat) (x y : Value) (xs ys : List (Nat × Value)) (h : VRel ρ x y) (t : PRel ρ xs ys) : PRel ρ ((i, x) :: xs) ((i, y) :: ys)

theorem fillA_sim {place : Nat → Option (Nat × Nat)} {place' : Nat → Option (Nat × Nat)} (hp : ∀ i q, place i = some q → place' i = some q) {parts parts' : List (Nat × Value)} (hP : PRel ρ parts parts') :
    ∀ (cs r : List Value) (C : Array Value), LRel ρ cs C.toList → fillA place cs parts = some r → ∃ D, Instr.fill place' C parts' = some D ∧ LRel ρ r D.toList := by
  induction hP with
  | nil => intro cs r C hL h; cases h; exact ⟨C, rfl, hL⟩
  | cons i x y xs ys hxy t ih =>
    intro cs r C hL h
    unfold fillA at h
    cases hi : place i with
    | none => rw [hi] at h; cases h
    | some q =>
      obtain ⟨off, size⟩ := q
      rw [hi] at h; simp only at h
      cases hc : (Nat.beq x.cells.toList.length size && Nat.ble (off + size) cs.length && x.cells.toList.all Mir.oneCell) with
      | false => rw [hc] at h; cases h
      | true =>
        rw [hc] at h; simp only [cond_true] at h
        simp only [Bool.and_eq_true] at hc
        obtain ⟨⟨h1, h2⟩, h3⟩ := hc
        have h1 := Nat.eq_of_beq_eq_true h1
        have h2 := Nat.le_of_ble_eq_true h2
        have hV := hxy.cells h3
        have hsz : y.cells.size = size := by have := hV.1; simp at this; rw [← this]; simpa using h1
        have hlen : cs.length = C.size := by simpa using hL.1
        unfold Instr.fill
        rw [hp i _ hi]
        simp only
        rw [if_neg (by simp [hsz]; omega), fill_step off y C (by omega)]
        refine ih _ r _ ?_ h
        have e : (splice C.toList off y.cells.toList) = C.toList.take off ++ y.cells.toList ++ C.toList.drop (off + y.cells.toList.length) := rfl
        show LRel ρ (splice cs off x.cells.toList) (splice C.toList off y.cells.toList)
        unfold splice
        rw [hV.1]
        exact ((hL.take off).append hV).append (hL.drop _)

theorem run_mapM_fields (fields : List Field) (h : fields.all (fun f => (sizeT P f.type).isSome) = true) :
    (fields.mapM (m := Sem) fun f => do pure (f.offset, ← sizeOf f.type)).run P w = .ok (fields.map fun f => (f.offset, (sizeT P f.type).getD 0)) w := by
  induction fields with
  | nil => rfl
  | cons f fs ih =>
    simp only [List.all_cons, Bool.and_eq_true] at h
    rw [List.mapM_cons]
    cases hs : sizeT P f.type with
    | none => rw [hs] at h; simp at h
    | some n =>
      simp only [Sem.run_bind, run_size hs, Result.andThen_ok, Sem.run_pure, ih h.2, List.map_cons, hs, Option.getD_some]

theorem opBuild_sim (hR : Rel P ρ S w) {tm : List Value} {ev' : Operand → Value} (hE : ∀ x, VRel ρ (ev tm x) (ev' x)) {t : TypeId} {parts : Array (Nat × Operand)} {v : Value} (h : opBuild P S tm t parts = some (.val v S')) :
    ValSim P ρ S w v S' ((do pure (Next.value (← Instr.build t (parts.map fun (i, x) => (i, ev' x)))) : Sem Next).run P w) := by
  have hP : PRel ρ (partsA tm parts) (parts.map fun (x : Nat × Operand) => (x.1, ev' x.2)).toList := by
    unfold partsA
    rw [Array.toList_map]
    generalize parts.toList = l
    induction l with
    | nil => exact .nil
    | cons a l ih => exact .cons _ _ _ _ _ (hE _) ih
  unfold opBuild at h
  cases hz : zeroT P t with
  | none => rw [hz] at h; simp at h
  | some z =>
    have hZ := plain_zero ρ (zeroT_info hz).choose_spec.2.2
    rw [hz] at h
    cases hu : P.underlying t with
    | none => rw [hu] at h; simp at h
    | some D =>
      rw [hu] at h
      cases D <;> simp only [reduceCtorEq] at h
      · rename_i len elem
        cases hs : sizeT P elem with
        | none => rw [hs] at h; cases h
        | some n =>
          rw [hs] at h; simp only at h
          cases hf : fillA (placeE n) z.cells.toList (partsA tm parts) with
          | none => rw [hf] at h; cases h
          | some cs =>
            rw [hf] at h; cases h
            obtain ⟨D, hD, hL⟩ := fillA_sim (place' := fun i => some (i * n, n)) (fun i q hq => hq) hP _ _ z.cells hZ hf
            refine .reg hR (v' := .agg D) ?_ (.agg _ _ hL.1 hL.2)
            unfold Instr.build
            simp only [Sem.run_bind, run_zero hz, run_und hu, run_size hs, Result.andThen_ok]
            simp only [hD, Sem.run_pure]
      · rename_i fields
        cases hq : sizedFields P fields with
        | false => rw [hq] at h; cases h
        | true =>
          rw [hq] at h; simp only [cond_true] at h
          cases hf : fillA (placeF P fields) z.cells.toList (partsA tm parts) with
          | none => rw [hf] at h; cases h
          | some cs =>
            rw [hf] at h; cases h
            obtain ⟨D, hD, hL⟩ := fillA_sim (place' := fun i => ((fields.toList.map fun f => (f.offset, (sizeT P f.type).getD 0)).toArray)[i]?) (fun i q hq => by
              unfold placeF at hq
              simp only [List.getElem?_toArray, List.getElem?_map]
              cases hi : fields.toList[i]? with
              | none => rw [hi] at hq; cases hq
              | some f =>
                rw [hi] at hq; simp only at hq
                cases hs : sizeT P f.type with
                | none => rw [hs] at hq; cases hq
                | some n => rw [hs] at hq; cases hq; simp [hs]) hP _ _ z.cells hZ hf
            refine .reg hR (v' := .agg D) ?_ (.agg _ _ hL.1 hL.2)
            unfold Instr.build
            simp only [Sem.run_bind, run_zero hz, run_und hu, Result.andThen_ok]
            rw [Array.mapM_eq_mapM_toList, Sem.run_map, run_mapM_fields _ hq]
            simp only [Result.andThen_ok]
            have hD' := hD
            simp only [hD', Sem.run_pure]
end
end Go.Mir

namespace Go.Mir
open Go
section
variable {P : Program} {ρ : Ren} {S S' : St} {w : World}

theorem rvs_some {x : Option (Value × St)} {r : ARes} (h : rvs x = some r) : ∃ v s, x = some (v, s) ∧ r = .val v s := by
  cases x with
  | none => cases h
  | some p => cases h; exact ⟨p.1, p.2, rfl, rfl⟩
theorem rv_some {s : St} {x : Option Value} {r : ARes} (h : rv s x = some r) : ∃ v, x = some v ∧ r = .val v s := by
  cases x with
  | none => cases h
  | some v => cases h; exact ⟨v, rfl, rfl⟩
theorem ru_some {x : Option St} {r : ARes} (h : ru x = some r) : ∃ s, x = some s ∧ r = .val undef s := by
  cases x with
  | none => cases h
  | some v => cases h; exact ⟨v, rfl, rfl⟩

theorem opAlloc_sim (hR : Rel P ρ S w) {t : TypeId} {v : Value} (h : opAlloc P S t = some (.val v S')) :
    ValSim P ρ S w v S' ((do pure (Next.value (← Instr.alloc t true (.tuple #[]))) : Sem Next).run P w) := by
  unfold opAlloc at h
  cases hz : zeroT P t with
  | none => rw [hz] at h; cases h
  | some z =>
    rw [hz] at h
    have hZ := plain_zero ρ (zeroT_info hz).choose_spec.2.2
    obtain ⟨v0, S0, v', w', ρ', he, hr, hv, h1, h2⟩ := newVar_sim hR hZ h
    cases he
    refine .mem (w' := w') (v' := v') (ρ' := ρ') ?_ hv h1 h2
    unfold Instr.alloc
    simp only [Sem.run_bind, run_zero hz, Result.andThen_ok]
    exact hr

theorem opBox_sim (hR : Rel P ρ S w) {t : TypeId} {x x' : Value} {v : Value} (hx : VRel ρ x x') (h : newVar P S t x.cells.toList = some (.val v S')) :
    ValSim P ρ S w v S' ((do pure (Next.value (← Instr.box t x')) : Sem Next).run P w) := by
  have hone : x.cells.toList.all Mir.oneCell = true := by
    unfold newVar at h
    cases hs : sizeT P t with
    | none => rw [hs] at h; cases h
    | some n =>
      rw [hs] at h; simp only at h
      cases hc : (Nat.ble S.next 1073741823 && x.cells.toList.all Mir.oneCell) with
      | false => rw [hc] at h; cases h
      | true => simp only [Bool.and_eq_true] at hc; exact hc.2
  obtain ⟨v0, S0, v', w', ρ', he, hr, hv, h1, h2⟩ := newVar_sim hR (hx.cells hone) h
  cases he
  exact .mem (w' := w') (v' := v') (ρ' := ρ') hr hv h1 h2

/-- A new slice over a new row: 'extra' elements more than are known. -/
theorem newSlice_sim (hR : Rel P ρ S w) {e : TypeId} {n : Nat} (hsz : sizeT P e = some n) {cs cs' : List Value} {C : Array Value} {F : Nat × Nat} {g : Bool} {l c : Nat} {v : Value} (hL : LRel ρ cs cs')
    (hC : ∀ (i : Nat) (y : Value), cs'[i]? = some y → C.toList[i]? = some y) (extra : Nat) (hg : g = false → extra = 0) (hx : cs.length + extra * n ≤ C.size) (hF : F.1 = F.2 ∨ C.size ≤ F.1)
    (hl : extra ≠ 0 → cs.length = c * n) {w' : World}
    (hw : w'.heap = w.heap.push (.cells C e F)) (h1 : w'.os = w.os) (h2 : w'.tape = w.tape) (h3 : w'.output = w.output) (h : newSlice S e cs g l c = some (v, S')) :
    ∃ ρ', VRel ρ' v (.slice (some ⟨w.heap.size, 0, none⟩) l (c + extra)) ∧ Rel P ρ' S' w' ∧ Step ρ S w ρ' S' w' := by
  unfold newSlice at h
  cases hc : Nat.ble S.next 1073741823 with
  | false => rw [hc] at h; cases h
  | true =>
    rw [hc] at h; cases h
    have hn := Nat.le_of_ble_eq_true hc
    have := newCells_sim hR hn hsz (C := C) (F := F) hL hC extra g hg hx hF hw h1 h2 h3
    refine ⟨_, ?_, this.1, this.2⟩
    have hv := VRel.slice (ρ := ρ.add S.next ⟨w.heap.size, 0, cs.length, extra, n⟩) S.next 0 l c (c + extra) _ (Ren.add_same _ _ _) (by
      rcases Nat.eq_zero_or_pos extra with e0 | e0
      · exact .inl (by omega)
      · exact .inr ⟨by rw [Nat.zero_add]; exact (hl (by omega)).symm, by omega, Nat.le_refl _⟩)
    exact hv

theorem rep_length (z : List Value) : ∀ c, (rep z c).length = c * z.length
  | 0 => by simp [rep]
  | c + 1 => by simp [rep, rep_length z c, Nat.succ_mul]; omega

theorem rep_all {p : Value → Bool} {z : List Value} (h : z.all p = true) : ∀ c, (rep z c).all p = true
  | 0 => rfl
  | c + 1 => by simp only [rep, List.all_append, h, rep_all h c, Bool.and_self]

theorem rep_get (z : List Value) : ∀ (c i : Nat), i < c * z.length → (rep z c)[i]? = z[i % z.length]?
  | 0, i, h => by omega
  | c + 1, i, h => by
    unfold rep
    by_cases hi : i < z.length
    · rw [List.getElem?_append_left hi, Nat.mod_eq_of_lt hi]
    · rw [List.getElem?_append_right (by omega), rep_get z c (i - z.length) (by rw [Nat.succ_mul] at h; omega)]
      congr 1
      exact (Nat.mod_eq_sub_mod (by omega)).symm

theorem zeros_eq (z : Array Value) (c n : Nat) (hn : z.size = n) : ((Array.range (c * n)).map fun i => z[i % z.size]!) = ⟨rep z.toList c⟩ := by
  apply Array.ext'
  apply List.ext_getElem?
  intro i
  simp only [Array.toList_map, Array.toList_range, List.getElem?_map]
  by_cases hi : i < c * n
  · have h0 : 0 < n := by rcases Nat.eq_zero_or_pos n with e | e; · subst e; omega
                          · exact e
    rw [List.getElem?_range hi, rep_get _ _ _ (by simpa [hn] using hi)]
    have hm : i % z.size < z.size := Nat.mod_lt _ (by omega)
    simp only [Option.map_some, Array.length_toList]
    rw [getElem!_pos z _ hm]
    simp [hm]
  · rw [List.getElem?_eq_none (by simp; omega), List.getElem?_eq_none (by rw [rep_length]; simp [hn]; omega)]; rfl

theorem opMakeSlice_sim (hR : Rel P ρ S w) {t : TypeId} {l c l' c' : Value} {v : Value} (hl : VRel ρ l l') (hc : VRel ρ c c') (h : opMakeSlice P S t l c = some (.val v S')) :
    ValSim P ρ S w v S' ((do pure (Next.value (← Instr.makeSlice t l' c')) : Sem Next).run P w) := by
  unfold opMakeSlice at h
  cases hu : P.underlying t with
  | none => rw [hu] at h; simp at h
  | some D =>
    rw [hu] at h
    split at h
    · rename_i elem kl ln kc cn e
      cases e
      cases hl; cases hc
      cases hz : zeroT P elem with
      | none => rw [hz] at h; simp at h
      | some z =>
        obtain ⟨i, hi, hzi, hpl⟩ := zeroT_info hz
        rw [hz, hi] at h; simp only at h
        cases hq : (Nat.ble ln cn && Nat.ble (cn * (i.bytes + 1)) 1099511627776 && Nat.beq z.cells.toList.length i.size) with
        | false => rw [hq] at h; cases h
        | true =>
          rw [hq] at h; simp only [cond_true] at h
          simp only [Bool.and_eq_true] at hq
          obtain ⟨⟨q1, q2⟩, q3⟩ := hq
          have q1 := Nat.le_of_ble_eq_true q1
          have q2 := Nat.le_of_ble_eq_true q2
          have q3 := Nat.eq_of_beq_eq_true q3
          have hsz : sizeT P elem = some i.size := by unfold sizeT; rw [hi]; rfl
          obtain ⟨v0, S0, he, hv0⟩ := rvs_some h
          cases hv0
          have hcn : cn ≤ 1099511627776 := Nat.le_trans (Nat.le_mul_of_pos_right _ (by omega)) q2
          have hb : i.bytes * cn ≤ 1099511627776 := by
            have : i.bytes * cn ≤ cn * (i.bytes + 1) := by rw [Nat.mul_comm]; exact Nat.mul_le_mul_left _ (by omega)
            omega
          have wl := wrap64_nat ln (by omega)
          have wc := wrap64_nat cn (by omega)
          let C : Array Value := ⟨rep z.cells.toList cn⟩
          have hrun : (Instr.makeSlice t (.int kl (Int.ofNat ln)) (.int kc (Int.ofNat cn))).run P w = .ok (.slice (some ⟨w.heap.size, 0, none⟩) ln cn) (grow w (.cells C elem (0, 0))) := by
            unfold Instr.makeSlice
            simp only [Sem.run_bind, run_und hu, Result.andThen_ok, asInt, asIntOf, Sem.run_pure, run_info hi, wl, wc]
            have hbi : (i.bytes : Int) * (cn : Int) ≤ 1099511627776 := by rw [← Int.natCast_mul]; omega
            have t1 : (decide ((cn : Int) < 0) || decide ((i.bytes : Int) * (cn : Int) > 2 ^ 48)) = false := by
              simp; omega
            have t2 : decide ((ln : Int) < 0) = false := by simp
            have t3 : decide ((ln : Int) > (cn : Int)) = false := by simp; omega
            simp only [t1, t2, t3, Bool.or_self, Bool.false_eq_true, if_false, Int.toNat_natCast]
            rw [Sem.run_bind, show (askRoom (cn * i.bytes)).run P w = .ok () w by
              unfold askRoom; rw [if_neg (by unfold roomBytes; rw [Nat.mul_comm]; omega)]; rfl]
            simp only [Result.andThen_ok, Sem.run_bind, run_size hsz]
            by_cases h0 : cn * i.size = 0
            · rw [if_pos h0]
              have hC : C = #[] := by
                have : (rep z.cells.toList cn).length = 0 := by rw [rep_length, q3]; exact h0
                show (⟨rep z.cells.toList cn⟩ : Array Value) = _
                rw [List.eq_nil_of_length_eq_zero this]
              have hz0 : ∀ f : Nat → Value, (Array.range (cn * i.size)).map f = C := by
                intro f; rw [h0, hC]; apply Array.ext'; simp
              simp only [Sem.run_bind, Sem.run_pure, Result.andThen_ok, hz0]
              rfl
            · rw [if_neg h0]
              simp only [Sem.run_bind, run_zero hz, Sem.run_pure, Result.andThen_ok]
              rw [zeros_eq z.cells cn i.size (by simpa using q3)]
              rfl
          obtain ⟨ρ', hv, h1, h2⟩ := newSlice_sim hR hsz (C := C) (F := (0, 0)) (cs' := rep z.cells.toList cn) (LRel.plain ρ (rep_all (plain_cells hpl) cn)) (fun i y hy => hy) 0 (fun _ => rfl) (by simp [C]) (.inl rfl) (fun e => absurd rfl e) (w' := grow w (.cells C elem (0, 0))) rfl rfl rfl rfl he
          exact .mem hrun hv h1 h2
    · cases h

theorem opBuildSlice_sim (hR : Rel P ρ S w) {tm : List Value} {ev' : Operand → Value} (hE : ∀ x, VRel ρ (ev tm x) (ev' x)) {t : TypeId} {len : Nat} {parts : Array (Nat × Operand)} {v : Value}
    (h : opBuildSlice P S tm t len parts = some (.val v S')) :
    ValSim P ρ S w v S' ((do pure (Next.value (← Instr.buildSlice t len (parts.map fun (i, x) => (i, ev' x)))) : Sem Next).run P w) := by
  have hP : PRel ρ (partsA tm parts) (parts.map fun (x : Nat × Operand) => (x.1, ev' x.2)).toList := by
    unfold partsA
    rw [Array.toList_map]
    generalize parts.toList = l
    induction l with
    | nil => exact .nil
    | cons a l ih => exact .cons _ _ _ _ _ (hE _) ih
  unfold opBuildSlice at h
  cases hu : P.underlying t with
  | none => rw [hu] at h; simp at h
  | some D =>
    rw [hu] at h
    cases D <;> simp only [reduceCtorEq] at h
    rename_i elem
    cases hs : sizeT P elem with
    | none => rw [hs] at h; simp at h
    | some n =>
      cases hz : zeroT P elem with
      | none => rw [hs, hz] at h; simp at h
      | some z =>
        obtain ⟨i, hi, hzi, hpl⟩ := zeroT_info hz
        rw [hs, hz] at h; simp only at h
        cases hq : (Nat.ble (len * n) 1048576 && Nat.beq z.cells.toList.length n) with
        | false => rw [hq] at h; cases h
        | true =>
          rw [hq] at h; simp only [cond_true] at h
          simp only [Bool.and_eq_true] at hq
          have q1 := Nat.le_of_ble_eq_true hq.1
          have q2 := Nat.eq_of_beq_eq_true hq.2
          cases hf : fillA (placeE n) (rep z.cells.toList len) (partsA tm parts) with
          | none => rw [hf] at h; cases h
          | some cs =>
            rw [hf] at h; simp only at h
            obtain ⟨v0, S0, he, hv0⟩ := rvs_some h
            cases hv0
            have hrp := rep_all (plain_cells hpl) len
            obtain ⟨D, hD, hL⟩ := fillA_sim (place' := fun i => some (i * n, n)) (fun i q hq => hq) hP _ _ ⟨rep z.cells.toList len⟩ (LRel.plain ρ hrp) hf
            obtain ⟨ρ', hv, h1, h2⟩ := newSlice_sim hR hs (C := D) (F := (0, 0)) (cs' := D.toList) hL (fun i y hy => hy) 0 (fun _ => rfl) (by have := hL.1; simp at this; omega) (.inl rfl) (fun e => absurd rfl e)
              (w' := grow w (.cells D elem (0, 0))) rfl rfl rfl rfl he
            refine .mem (w' := grow w (.cells D elem (0, 0))) ?_ hv h1 h2
            unfold Instr.buildSlice
            simp only [Sem.run_bind, run_und hu, run_size hs, Result.andThen_ok]
            rw [if_neg (by omega)]
            by_cases h0 : len * n = 0
            · rw [if_pos h0]
              have hC : (⟨rep z.cells.toList len⟩ : Array Value) = #[] := by
                have : (rep z.cells.toList len).length = 0 := by rw [rep_length, q2]; exact h0
                rw [List.eq_nil_of_length_eq_zero this]
              have hz0 : ∀ f : Nat → Value, (Array.range (len * n)).map f = ⟨rep z.cells.toList len⟩ := by
                intro f; rw [h0, hC]; apply Array.ext'; simp
              simp only [Sem.run_bind, Sem.run_pure, Result.andThen_ok, hz0, hD]
              rfl
            · rw [if_neg h0]
              simp only [Sem.run_bind, run_zero hz, Sem.run_pure, Result.andThen_ok]
              rw [zeros_eq z.cells len n (by simpa using q2), hD]
              rfl
end
end Go.Mir

namespace Go.Mir
open Go
section
variable {P : Program} {ρ : Ren} {S S' : St} {w : World}

theorem cellsOfBytes_one (l : List UInt8) : (cellsOfBytes l).all Mir.oneCell = true := by
  rw [List.all_eq_true]; intro v hv
  unfold cellsOfBytes at hv
  obtain ⟨c, _, rfl⟩ := List.mem_map.1 hv; rfl
theorem cellsOfBytes_rel (ρ : Ren) (l : List UInt8) : LRel ρ (cellsOfBytes l) (cellsOfBytes l) := by
  unfold cellsOfBytes; exact LRel.map l _ _ fun c _ => .int _ _

theorem lenA_sim {x x' : Value} {n : Nat} (hx : VRel ρ x x') (h : lenA x = some n) : (Builtin.lenOf x').run P w = .ok n w := by
  cases hx <;> simp [lenA, undef] at h
  · subst h; rfl
  · subst h; rfl
  · subst h; rfl
  · subst h; rfl

theorem firstA_sim (hR : Rel P ρ S w) {size n : Nat} {x x' : Value} {l : List Value} (hx : VRel ρ x x') (h : firstA S size n x = some l) :
    ∃ l', (∀ w' : World, w'.heap = w.heap → (Builtin.firstCells size n x').run P w' = .ok ⟨l'⟩ w') ∧ LRel ρ l l' := by
  cases hx with
  | string s =>
    unfold firstA at h
    cases hc : Nat.beq size 1 with
    | false => rw [hc] at h; cases h
    | true =>
      rw [hc] at h; cases h
      refine ⟨cellsOfBytes (s.data.toList.take n), fun w' _ => ?_, cellsOfBytes_rel ρ _⟩
      unfold Builtin.firstCells
      simp only [Sem.run_pure]
      congr 1
      apply Array.ext'
      simp [cellsOfBytes, ByteArray.data_extract, List.extract_eq_take_drop]
  | sliceNil c d =>
    unfold firstA at h
    cases hc : Nat.beq (n * size) 0 with
    | false => rw [hc] at h; cases h
    | true => rw [hc] at h; cases h; exact ⟨[], fun _ _ => rfl, LRel.nil ρ⟩
  | slice0 a a' =>
    unfold firstA at h
    cases hc : Nat.beq (n * size) 0 with
    | true =>
      rw [hc] at h; cases h
      refine ⟨[], fun w' _ => ?_, LRel.nil ρ⟩
      unfold Builtin.firstCells
      rw [Nat.eq_of_beq_eq_true hc]; rfl
    | false =>
      rw [hc] at h; simp only [cond_false] at h
      cases hb : Nat.ble n 0 with
      | false => rw [hb] at h; cases h
      | true =>
        have := Nat.le_of_ble_eq_true hb
        have : n = 0 := by omega
        subst this
        simp at hc
  | slice b o l0 c c' p hb hcap =>
    unfold firstA at h
    cases hc : Nat.beq (n * size) 0 with
    | true =>
      rw [hc] at h; cases h
      refine ⟨[], fun w' _ => ?_, LRel.nil ρ⟩
      unfold Builtin.firstCells
      rw [Nat.eq_of_beq_eq_true hc]; rfl
    | false =>
      rw [hc] at h; simp only [cond_false] at h
      cases hn : Nat.ble n l0 with
      | false => rw [hn] at h; cases h
      | true =>
        rw [hn] at h; simp only [cond_true] at h
        exact cellsAt_sim hR hb h
  | any v => cases h
  | skip => cases h
  | bool => cases h
  | int => cases h
  | ptrNil => cases h
  | ptr => cases h
  | mapNil => cases h
  | map => cases h
  | func => cases h
  | yield => cases h
  | nilFunc => cases h
  | iface => cases h
  | nilIface => cases h
  | agg => cases h
  | tuple => cases h

theorem firstA_len {size n l c : Nat} {a : Option Addr} {r : List Value} (h : firstA S size n (.slice a l c) = some r) : r.length = n * size := by
  cases a with
  | none =>
    unfold firstA at h
    cases hc : Nat.beq (n * size) 0 with
    | false => rw [hc] at h; cases h
    | true => rw [hc] at h; cases h; rw [Nat.eq_of_beq_eq_true hc]; rfl
  | some a =>
    unfold firstA at h
    cases hc : Nat.beq (n * size) 0 with
    | true => rw [hc] at h; cases h; rw [Nat.eq_of_beq_eq_true hc]; rfl
    | false =>
      rw [hc] at h; simp only [cond_false] at h
      cases hn : Nat.ble n l with
      | false => rw [hn] at h; cases h
      | true =>
        rw [hn] at h; simp only [cond_true] at h
        unfold cellsAt at h
        split at h
        · rename_i cs _ _
          cases hb : Nat.ble (a.off + n * size) cs.length with
          | false => rw [hb] at h; cases h
          | true =>
            rw [hb] at h; cases h
            have := Nat.le_of_ble_eq_true hb
            simp; omega
        · cases h

theorem growBy_le (n : Nat) : ∀ (r c : Nat), c ≤ n + (n + 768) / 4 → Builtin.growBy n r c ≤ n + (n + 768) / 4
  | 0, c, h => h
  | r + 1, c, h => by
    unfold Builtin.growBy
    split
    · exact h
    · exact growBy_le n r _ (by omega)
theorem nextslicecap_le (n c : Nat) (h : c < n) : Builtin.nextslicecap n c ≤ 2 * n + 256 := by
  unfold Builtin.nextslicecap
  split
  · omega
  · split
    · omega
    · have := growBy_le n 4 c (by omega); omega

/-- A world in which something has been drawn. -/
abbrev drewW (w : World) (n : Nat) : World := { w with drawn := n }

theorem run_choose_cap {need old : Nat} {e : TypeId} : ∃ c, (choose (.appendCap need old e)).run P w = .ok c (drewW w (w.drawn + 1)) ∧ need ≤ c := by
  refine ⟨need + w.tape w.drawn (.appendCap need old e) % (2 ^ 63 - need), ?_, Nat.le_add_right _ _⟩
  unfold choose
  simp only [Sem.run, Question.forced, Bool.false_eq_true, if_false, Question.cut]

theorem zeroCells_size (z : Array Value) (n : Nat) : (Builtin.zeroCells z n).size = n * z.size := by simp [Builtin.zeroCells]

/-- The old block is left: what is known of it then. -/
theorem leaveOld_sim (hR : Rel P ρ S w) {elem : TypeId} {size : Nat} {base base' : Option Addr} {sLen sCap sCap' : Nat} {S1 : St} (hx : VRel ρ (.slice base sLen sCap) (.slice base' sLen sCap')) (hsz : sizeT P elem = some size)
    (h : leaveOld S elem size base sCap = some S1) :
    Rel P ρ S1 w ∧ Step ρ S w ρ S1 w ∧ (sCap' = sCap ∨ ∃ b o p cs, base = some ⟨b, o, none⟩ ∧ base' = some ⟨p.blk, p.off + o, none⟩ ∧ ρ b = some p ∧ S.get b = some (.cells cs elem true) ∧ S1 = S.put b .dead ∧ p.esz = size ∧
      o + sCap * size = p.top ∧ sCap ≤ sCap' ∧ sCap' ≤ sCap + p.extra) := by
  have bound : ∀ {b : Nat} {x : ABlk}, S.get b = some x → b < 1073741824 := fun {b x} hb => by
    rcases Nat.lt_or_ge b S.next with h | h
    · exact Nat.lt_of_lt_of_le h hR.next
    · rw [hR.fresh b h] at hb; cases hb
  cases hx with
  | sliceNil => cases h; exact ⟨hR, .refl _ _ _, .inl rfl⟩
  | slice0 a a' =>
    unfold leaveOld at h
    simp only at h
    split at h
    · rename_i cs e hb
      cases he : Nat.beq e elem with
      | false => rw [he] at h; cases h
      | true =>
        rw [he] at h; simp only [cond_true] at h
        cases hc : Nat.beq (a.off + 0 * size) cs.length with
        | false => rw [hc] at h; cases h; exact ⟨hR, .refl _ _ _, .inl rfl⟩
        | true => rw [hc] at h; cases h; have := hR.kill hb (bound hb); exact ⟨this.1, this.2, .inl rfl⟩
    · cases h; exact ⟨hR, .refl _ _ _, .inl rfl⟩
    · cases h; exact ⟨hR, .refl _ _ _, .inl rfl⟩
    · cases h
  | slice b o l c c' p hb hc =>
    unfold leaveOld at h
    simp only at h
    split at h
    · rename_i cs e hx
      obtain ⟨C, F, hw, hlen, hC, hF, htop, hg, hsze⟩ := hR.blk b p _ hb hx
      cases he : Nat.beq e elem with
      | false => rw [he] at h; cases h
      | true =>
        obtain rfl := Nat.eq_of_beq_eq_true he
        rw [he] at h; simp only [cond_true] at h
        have hesz : p.esz = size := by unfold sizeT at hsz; rw [hsze] at hsz; cases hsz; rfl
        cases hq : Nat.beq (o + sCap * size) cs.length with
        | false =>
          rw [hq] at h; cases h
          refine ⟨hR, .refl _ _ _, .inl ?_⟩
          rcases hc with hc | ⟨hc, _⟩
          · exact hc
          · rw [hesz] at hc
            rw [hc, hlen] at hq; simp at hq
        | true =>
          rw [hq] at h; cases h
          have := hR.kill hx (bound hx)
          refine ⟨this.1, this.2, ?_⟩
          rcases hc with hc | ⟨h1, h2, h3⟩
          · exact .inl hc
          · exact .inr ⟨b, o, p, cs, rfl, rfl, hb, hx, rfl, hesz, by rw [← hesz]; exact h1, h2, h3⟩
    · rename_i cs e hx
      obtain ⟨C, F, hw, hlen, hC, hF, htop, hg, hsze⟩ := hR.blk b p _ hb hx
      cases h
      refine ⟨hR, .refl _ _ _, .inl ?_⟩
      have := hg rfl
      rcases hc with hc | ⟨_, h2, h3⟩ <;> omega
    · rename_i cs e hx
      obtain ⟨C, F, hw, hlen, hC, hsze, he⟩ := hR.blk b p _ hb hx
      cases h
      refine ⟨hR, .refl _ _ _, .inl ?_⟩
      rcases hc with hc | ⟨_, h2, h3⟩ <;> omega
    · cases h

/-- A new block in the place of one that is left. -/
theorem take_over (hR : Rel P ρ S w) {b : Nat} {p p' : Place} {x y : ABlk} {w' : World} (hb : ρ b = some p) (hx : S.get b = some x) (hr : x.rw = true) (hp : p'.blk = p.blk) (hn : S.next ≤ 1073741823)
    (hs : w'.heap.size = w.heap.size) (hk : ∀ k, k < w.heap.size → k ≠ p.blk → w'.heap[k]? = w.heap[k]?) (h1 : w'.os = w.os) (h2 : w'.tape = w.tape) (h3 : w'.output = w.output)
    (hy : BRel P (ρ.add S.next p') y p' w') :
    Rel P (ρ.add S.next p') ((S.put b .dead).push y) w' ∧ Step ρ S w (ρ.add S.next p') ((S.put b .dead).push y) w' := by
  have hd := hR.dom b p hb
  have hlt : b < 1073741824 := Nat.lt_of_lt_of_le hd.1 hR.next
  obtain ⟨hR1, hS1⟩ := hR.kill hx hlt
  have hfree : ∀ c q z, ρ c = some q → (S.put b .dead).get c = some z → z.live = true → q.blk ≠ p'.blk := by
    intro c q z hc hz hl he
    rw [St.get_put _ hlt] at hz
    by_cases e : c = b
    · subst e; rw [if_pos rfl] at hz; cases hz; cases hl
    · rw [if_neg e] at hz
      exact e (hR.inj b c p q x z hb hc hx hz hr hl (by rw [he, hp])).symm
  refine ⟨hR1.push (by simpa using hn) y p' (by omega) (by rw [hp, hs]; exact hd.2) (fun k hk' hne => hk k hk' (by rw [← hp]; exact hne)) hfree hy, ?_⟩
  have hnone := hR.none_next
  have lt : (S.put b .dead).next < 1073741824 := by simp; omega
  refine ⟨Ren.le_add p' hnone, ?_, ?_, ?_, by omega, by simp, h1, h2, h3⟩
  · intro c q hc hc'
    unfold Ren.add at hc
    by_cases e : c = S.next
    · rw [if_pos e] at hc; cases hc
      exact ⟨by omega, .inr ⟨b, p, x, hb, hx, hr, hp.symm⟩⟩
    · rw [if_neg e] at hc; rw [hc] at hc'; cases hc'
  · intro c q z hc hz hl
    have hcn : c ≠ S.next := fun e => by subst e; rw [hnone] at hc; cases hc
    rw [St.get_push _ lt, St.get_put _ hlt] at hz
    simp only [St.next_put, hcn, if_false] at hz
    by_cases e : c = b
    · subst e; rw [if_pos rfl] at hz; cases hz; cases hl
    · rw [if_neg e] at hz; exact ⟨z, hz, hl, id⟩
  · intro k hk' hno
    exact hk k hk' fun e => hno b p x hb hx hr e.symm

theorem slice_inv {a : Option Addr} {l c : Nat} {y : Value} (h : VRel ρ (.slice a l c) y) : ∃ a' c', y = .slice a' l c' := by
  cases h with
  | sliceNil => exact ⟨_, _, rfl⟩
  | slice0 => exact ⟨_, _, rfl⟩
  | slice => exact ⟨_, _, rfl⟩

/-- append, where the kind of what is appended is known: in place, or into new cells. -/
theorem append_run {argTypes : Array TypeId} {ty sT elem : TypeId} {info : TypeInfo} {z x x' : Value} {n : Nat} {new : List Value} {base' : Option Addr} {sLen sCap' : Nat} (hR : Rel P ρ S w)
    (h0 : argTypes[0]? = some sT) (hu : P.underlying sT = some (.slice elem)) (hi : P.info? elem = some info) (hz : zeroT P elem = some z) (hzl : z.cells.toList.length = info.size)
    (hx : VRel ρ x x') (h : addedA P S argTypes info.size z x = some (n, new)) (hn : (sLen + n) * (info.bytes + 1) ≤ 68719476736) :
    ∃ new', LRel ρ new new' ∧
      (sLen + n ≤ sCap' → ∀ w1, (match base' with | some a => storeCells (a.add (sLen * info.size)) new' | none => pure ()).run P w = .ok () w1 →
        (Builtin.append_ argTypes ty #[.slice base' sLen sCap', x']).run P w = .ok (.slice base' (sLen + n) sCap') w1) ∧
      (¬ sLen + n ≤ sCap' → ∀ old', (Builtin.firstCells info.size sLen (.slice base' sLen sCap')).run P (drewW w (w.drawn + 1)) = .ok ⟨old'⟩ (drewW w (w.drawn + 1)) →
        ∃ c, sLen + n ≤ c ∧ (Builtin.append_ argTypes ty #[.slice base' sLen sCap', x']).run P w =
          .ok (.slice (some ⟨w.heap.size, 0, none⟩) (sLen + n) c) (grow (drewW w (w.drawn + 1)) (.cells (⟨old'⟩ ++ ⟨new'⟩ ++ Builtin.zeroCells z.cells (c - (sLen + n))) elem (0, 0)))) := by
  have hsz : sizeT P elem = some info.size := by unfold sizeT; rw [hi]; rfl
  have hne : sLen + n ≤ 68719476736 := Nat.le_trans (Nat.le_mul_of_pos_right _ (by omega)) hn
  have hnb : (sLen + n) * info.bytes ≤ 68719476736 := Nat.le_trans (Nat.mul_le_mul_left _ (by omega)) hn
  have hb : info.bytes ≤ 68719476736 ∨ sLen + n = 0 := by
    rcases Nat.eq_zero_or_pos (sLen + n) with e | e
    · exact .inr e
    · left
      exact Nat.le_trans (Nat.le_mul_of_pos_left _ e) hnb
  have hmax : ¬ (((sLen + n : Nat) : Int) > IntKind.i64.max) := by
    have : IntKind.i64.max = 9223372036854775807 := rfl
    rw [this]; omega
  have hcap : ¬ sLen + n ≤ sCap' → ¬ (Builtin.nextslicecap (sLen + n) sCap' * info.bytes > 2 ^ 48) := by
    intro hc
    have h1 := nextslicecap_le (sLen + n) sCap' (by omega)
    have h2 : Builtin.nextslicecap (sLen + n) sCap' * info.bytes ≤ (2 * (sLen + n) + 256) * info.bytes := Nat.mul_le_mul_right _ h1
    rw [Nat.add_mul, Nat.mul_assoc] at h2
    rcases hb with hb | hb <;> omega
  obtain ⟨c, hch, hcc⟩ := run_choose_cap (P := P) (w := w) (need := sLen + n) (old := sCap') (e := elem)
  have hroom : ∀ w' : World, (askRoom (c * info.bytes)).run P w' = .ok () w' := by
    intro w'; unfold askRoom; split <;> rfl
  have inplace : ∀ {new' : List Value} (w1 : World), (match base' with | some a => storeCells (a.add (sLen * info.size)) new' | none => pure ()).run P w = .ok () w1 →
      (match base' with
        | some a => do
          storeCells (a.add (sLen * info.size)) new'
          pure (Value.slice base' (sLen + n) sCap')
        | x => pure (Value.slice base' (sLen + n) sCap') : Sem Value).run P w = .ok (.slice base' (sLen + n) sCap') w1 := by
    intro new' w1 hw1
    cases base' with
    | none => simp only [Sem.run_pure, Result.ok.injEq, true_and] at hw1; subst hw1; rfl
    | some a => simp only [Sem.run_bind, hw1, Result.andThen_ok, Sem.run_pure]
  have e0 : (#[Value.slice base' sLen sCap', x'] : Array Value)[0]? = some (.slice base' sLen sCap') := rfl
  have e1 : (#[Value.slice base' sLen sCap', x'] : Array Value)[1]? = some x' := rfl
  unfold addedA at h
  unfold zerosA at h
  cases h1 : argTypes[1]? with
  | none =>
    rw [h1] at h; simp only at h
    unfold lensA at h
    cases hL : lenA x with
    | none => rw [hL] at h; cases h
    | some m =>
      rw [hL] at h; simp only at h
      cases hF : firstA S info.size m x with
      | none => rw [hF] at h; cases h
      | some l =>
        rw [hF] at h; cases h
        obtain ⟨new', hr, hLR⟩ := firstA_sim hR hx hF
        refine ⟨new', hLR, ?_, ?_⟩
        · intro hc w1 hw1
          unfold Builtin.append_
          simp only [h0, h1, e0, e1, Sem.run_bind, run_und hu, run_size hsz, Result.andThen_ok, Sem.run_pure, lenA_sim hx hL, Bool.false_eq_true, if_false, Bool.not_false, if_true, Sem.run_ite, hc, hr w rfl]
          exact inplace w1 hw1
        · intro hc old' hold
          refine ⟨c, hcc, ?_⟩
          unfold Builtin.append_
          simp only [h0, h1, e0, e1, Sem.run_bind, run_und hu, run_size hsz, Result.andThen_ok, Sem.run_pure, lenA_sim hx hL, Bool.false_eq_true, if_false, Bool.not_false, if_true, Sem.run_ite, hc, run_info hi, hmax, false_and, hcap hc, hch, hroom, hold, hr (drewW w (w.drawn + 1)) rfl, run_zero hz]
          rfl
  | some t =>
    rw [h1] at h; simp only at h
    cases h2 : P.underlying t with
    | none => rw [h2] at h; cases h
    | some D =>
      rw [h2] at h
      by_cases hD : ∃ k, D = .int k
      · obtain ⟨k, rfl⟩ := hD
        simp only at h
        cases x <;> first | (exact absurd h (by simp)) | skip
        rename_i k' i
        cases i with
        | negSucc m => exact absurd h (by simp)
        | ofNat m =>
          simp only [Option.some.injEq, Prod.mk.injEq] at h
          obtain ⟨rfl, rfl⟩ := h
          cases hx
          have hw64 := wrap64_nat m (by omega)
          have hmb : ¬ ((m : Int) * (info.bytes : Int) > 2 ^ 48) := by
            have : m * info.bytes ≤ (sLen + m) * info.bytes := Nat.mul_le_mul_right _ (by omega)
            rw [← Int.natCast_mul]; omega
          have hneg : ¬ ((m : Int) < 0) := by omega
          refine ⟨rep z.cells.toList m, LRel.plain ρ (rep_all (plain_cells (zeroT_info hz).choose_spec.2.2) m), ?_, ?_⟩
          · intro hc w1 hw1
            unfold Builtin.append_
            simp only [h0, h1, e0, e1, Sem.run_bind, run_und hu, run_und h2, run_size hsz, Result.andThen_ok, Sem.run_pure, asInt, asIntOf, hw64, hneg, run_info hi, hmb, Int.toNat_natCast, Bool.false_eq_true, if_false, Bool.not_true, if_true, Sem.run_ite, hc]
            by_cases hm0 : m * info.size = 0
            · have e : rep z.cells.toList m = [] := List.eq_nil_of_length_eq_zero (by rw [rep_length, hzl]; exact hm0)
              rw [e] at hw1
              simp only [hm0, if_true, Result.andThen_ok]
              exact inplace w1 hw1
            · simp only [hm0, if_false, run_zero hz, Result.andThen_ok]
              have e : Builtin.zeroCells z.cells m = ⟨rep z.cells.toList m⟩ := zeros_eq z.cells m z.cells.size rfl
              rw [e]
              exact inplace w1 hw1
          · intro hc old' hold
            refine ⟨c, hcc, ?_⟩
            unfold Builtin.append_
            simp only [h0, h1, e0, e1, Sem.run_bind, run_und hu, run_und h2, run_size hsz, Result.andThen_ok, Sem.run_pure, asInt, asIntOf, hw64, hneg, run_info hi, hmb, Int.toNat_natCast, Bool.false_eq_true, if_false, Bool.not_true, if_true, Sem.run_ite, hc, hmax, false_and, hcap hc, hch, hroom, hold, run_zero hz]
            by_cases hm0 : m * info.size = 0
            · have e : rep z.cells.toList m = [] := List.eq_nil_of_length_eq_zero (by rw [rep_length, hzl]; exact hm0)
              simp only [hm0, if_true, Result.andThen_ok, e]
              rfl
            · have e : Builtin.zeroCells z.cells m = ⟨rep z.cells.toList m⟩ := zeros_eq z.cells m z.cells.size rfl
              simp only [hm0, if_false, Result.andThen_ok, e]
              rfl
      · have h' : lensA S info.size x = some (n, new) := by
          cases D <;> first | exact h | exact absurd ⟨_, rfl⟩ hD
        unfold lensA at h'
        cases hL : lenA x with
        | none => rw [hL] at h'; cases h'
        | some m =>
          rw [hL] at h'; simp only at h'
          cases hF : firstA S info.size m x with
          | none => rw [hF] at h'; cases h'
          | some l =>
            rw [hF] at h'; cases h'
            obtain ⟨new', hr, hLR⟩ := firstA_sim hR hx hF
            refine ⟨new', hLR, ?_, ?_⟩
            · intro hc w1 hw1
              unfold Builtin.append_
              simp only [h0, h1, e0, e1, Sem.run_bind, run_und hu, run_und h2, run_size hsz, Result.andThen_ok, Sem.run_pure]
              clear h
              cases D <;> first | (exact absurd ⟨_, rfl⟩ hD) | skip
              all_goals
                simp only [lenA_sim hx hL, Bool.false_eq_true, if_false, Bool.not_false, if_true, Sem.run_ite, hc, hr w rfl, Sem.run_bind, Result.andThen_ok, Sem.run_pure]
                exact inplace w1 hw1
            · intro hc old' hold
              refine ⟨c, hcc, ?_⟩
              unfold Builtin.append_
              simp only [h0, h1, e0, e1, Sem.run_bind, run_und hu, run_und h2, run_size hsz, Result.andThen_ok, Sem.run_pure]
              clear h
              cases D <;> first | (exact absurd ⟨_, rfl⟩ hD) | skip
              all_goals
                simp only [lenA_sim hx hL, Bool.false_eq_true, if_false, Bool.not_false, if_true, Sem.run_ite, hc, run_info hi, hmax, false_and, hcap hc, hch, hroom, hold, hr (drewW w (w.drawn + 1)) rfl, run_zero hz, Sem.run_bind, Result.andThen_ok, Sem.run_pure]
                rfl
end
end Go.Mir

namespace Go.Mir
open Go
section
variable {P : Program} {ρ : Ren} {S S' : St} {w : World}

theorem aappend_sim (hR : Rel P ρ S w) {argTypes : Array TypeId} {ty : TypeId} {args args' : List Value} {v : Value} (hA : LRel ρ args args') (h : aappend P S argTypes args = some (v, S')) :
    ∃ v' w' ρ', (Builtin.append_ argTypes ty ⟨args'⟩).run P w = .ok v' w' ∧ VRel ρ' v v' ∧ Rel P ρ' S' w' ∧ Step ρ S w ρ' S' w' := by
  unfold aappend at h
  split at h
  · rename_i sT base sLen sCap x h0
    obtain ⟨s', r', rfl, hs, hA⟩ := hA.inv_cons
    obtain ⟨x', r'', rfl, hx, hA⟩ := hA.inv_cons
    obtain rfl := hA.inv_nil
    obtain ⟨base', sCap', rfl⟩ := slice_inv hs
    cases hu : P.underlying sT with
    | none => rw [hu] at h; simp at h
    | some D =>
      rw [hu] at h
      cases D <;> simp only [reduceCtorEq] at h
      rename_i elem
      cases hi : P.info? elem with
      | none => rw [hi] at h; simp at h
      | some info =>
        cases hz : zeroT P elem with
        | none => rw [hi, hz] at h; simp at h
        | some z =>
          rw [hi, hz] at h; simp only at h
          cases ha : addedA P S argTypes info.size z x with
          | none => rw [ha] at h; cases h
          | some q =>
            obtain ⟨n, new⟩ := q
            rw [ha] at h; simp only at h
            cases hc : (Nat.ble ((sLen + n) * (info.bytes + 1)) 68719476736 && new.all Mir.oneCell && Nat.beq new.length (n * info.size) && Nat.beq z.cells.toList.length info.size) with
            | false => rw [hc] at h; cases h
            | true =>
              rw [hc] at h; simp only [cond_true] at h
              simp only [Bool.and_eq_true] at hc
              obtain ⟨⟨⟨c1, c2⟩, c3⟩, c4⟩ := hc
              have c1 := Nat.le_of_ble_eq_true c1
              have c3 := Nat.eq_of_beq_eq_true c3
              have c4 := Nat.eq_of_beq_eq_true c4
              have hsz : sizeT P elem = some info.size := by unfold sizeT; rw [hi]; rfl
              obtain ⟨new', hLn, hin, hout⟩ := append_run (ty := ty) (base' := base') (sLen := sLen) (sCap' := sCap') hR h0 hu hi hz c4 hx ha c1
              have hcap : sCap ≤ sCap' := by
                cases hs with
                | sliceNil => exact Nat.le_refl _
                | slice0 => exact Nat.le_refl _
                | slice b o l c c' p hb hc => rcases hc with rfl | ⟨_, hc, _⟩ <;> omega
              cases hfit : Nat.ble (sLen + n) sCap with
              | true =>
                rw [hfit] at h; simp only [cond_true] at h
                have hfit := Nat.le_of_ble_eq_true hfit
                unfold appendIn at h
                cases hs with
                | sliceNil =>
                  simp only [Option.some.injEq, Prod.mk.injEq] at h
                  obtain ⟨rfl, rfl⟩ := h
                  exact ⟨_, w, ρ, hin (by omega) w rfl, .sliceNil _ _, hR, .refl _ _ _⟩
                | slice0 a a' =>
                  simp only at h
                  have e0 : n = 0 := by omega
                  subst e0
                  have : new = [] := List.eq_nil_of_length_eq_zero (by rw [c3]; simp)
                  subst this
                  obtain rfl := hLn.inv_nil
                  simp only [storeCellsA, Option.some.injEq, Prod.mk.injEq] at h
                  obtain ⟨rfl, rfl⟩ := h
                  exact ⟨_, w, ρ, hin (by omega) w rfl, .slice0 _ _, hR, .refl _ _ _⟩
                | slice b o l c c' p hb hcc =>
                  simp only at h
                  rw [addr_add] at h
                  cases hst : storeCellsA S ⟨b, o + sLen * info.size, none⟩ new with
                  | none => rw [hst] at h; cases h
                  | some S1 =>
                    rw [hst] at h; simp only [Option.some.injEq, Prod.mk.injEq] at h
                    obtain ⟨rfl, rfl⟩ := h
                    obtain ⟨w1, hrun, hR1, hS1⟩ := storeCellsA_sim hR hb hLn c2 hst
                    refine ⟨_, w1, ρ, hin (by omega) w1 ?_, .slice b o _ _ _ p hb hcc, hR1, hS1⟩
                    simp only
                    rw [addr_add, show p.off + o + sLen * info.size = p.off + (o + sLen * info.size) by omega]
                    exact hrun
              | false =>
                rw [hfit] at h; simp only [cond_false] at h
                have hfit : ¬ sLen + n ≤ sCap := fun hle => by rw [Nat.ble_eq_true_of_le hle] at hfit; cases hfit
                cases hf : firstA S info.size sLen (.slice base sLen sCap) with
                | none => rw [hf] at h; simp at h
                | some old =>
                  cases hl : leaveOld S elem info.size base sCap with
                  | none => rw [hf, hl] at h; simp at h
                  | some S1 =>
                    rw [hf, hl] at h; simp only at h
                    have ho : old.all Mir.oneCell = true := by
                      cases ho : old.all Mir.oneCell with
                      | true => rfl
                      | false => rw [ho] at h; cases h
                    rw [ho] at h; simp only [cond_true] at h
                    obtain ⟨hR1, hS1, hcase⟩ := leaveOld_sim (S1 := S1) hR hs hsz hl
                    obtain ⟨old', hold, hLo⟩ := firstA_sim hR hs hf
                    have holen := firstA_len hf
                    have hL : LRel ρ (old ++ new) (old' ++ new') := hLo.append hLn
                    have hlen : (old ++ new).length = (sLen + n) * info.size := by rw [List.length_append, holen, c3, Nat.add_mul]
                    by_cases hroom : sLen + n ≤ sCap'
                    · rcases hcase with e | ⟨b, o, p, cs, rfl, rfl, hb, hx0, rfl, hesz, htop, g1, g2⟩
                      · omega
                      · -- in place: the new block takes the old one's place
                        obtain ⟨C, F, hw, hlen0, hC, hF, htop0, hg, hsz0⟩ := hR.blk b p _ hb hx0
                        have hsC : sCap * info.size + (sCap' - sCap) * info.size = sCap' * info.size := by rw [← Nat.add_mul]; congr 1; omega
                        have hex : (sCap' - sCap) * info.size ≤ p.extra * p.esz := by rw [hesz]; exact Nat.mul_le_mul_right _ (by omega)
                        have hbound : p.off + o + sCap' * info.size ≤ C.size := by omega
                        have hneed : (sLen + n) * info.size ≤ sCap' * info.size := Nat.mul_le_mul_right _ hroom
                        have hsl : sLen * info.size + n * info.size = (sLen + n) * info.size := by rw [Nat.add_mul]
                        have hnl : new'.length = n * info.size := by rw [← hLn.1, c3]
                        have hst := run_storeCells' (P := P) (B := p.blk) (o := p.off + o + sLen * info.size) new' 0 w C hw hF (by omega) (hLn.all_one c2)
                        rw [Nat.add_zero] at hst
                        have hrun := hin hroom _ (by simp only; rw [addr_add]; exact hst)
                        unfold newSlice at h
                        cases hnb : Nat.ble (S.put b .dead).next 1073741823 with
                        | false => rw [hnb] at h; cases h
                        | true =>
                          rw [hnb] at h; simp only [cond_true, Option.some.injEq, Prod.mk.injEq] at h
                          obtain ⟨rfl, rfl⟩ := h
                          have hn := Nat.le_of_ble_eq_true hnb
                          simp only [St.next_put] at hn
                          have hCs : (splice C.toList (p.off + o + sLen * info.size) new').length = C.size := by rw [splice_length _ _ _ (by simp; omega)]; simp
                          have := take_over hR (p' := ⟨p.blk, p.off + o, (old ++ new).length, sCap' - (sLen + n), info.size⟩) (y := .cells (old ++ new) elem true) (w' := World.setRow w p.blk ⟨splice C.toList (p.off + o + sLen * info.size) new'⟩ elem F) hb hx0 rfl rfl hn
                            (by simp [World.setRow]) (fun k hk hne => by simp only [World.setRow, Array.getElem?_setIfInBounds]; rw [if_neg (fun e => hne e.symm)]) rfl rfl rfl ?_
                          · refine ⟨_, _, _, hrun, ?_, this.1, this.2⟩
                            have hv := VRel.slice (ρ := ρ.add S.next ⟨p.blk, p.off + o, (old ++ new).length, sCap' - (sLen + n), info.size⟩) S.next 0 (sLen + n) (sLen + n) sCap' _ (Ren.add_same _ _ _) (.inr ⟨by rw [Nat.zero_add]; exact hlen.symm, hroom, by show sCap' ≤ sLen + n + (sCap' - (sLen + n)); omega⟩)
                            exact hv
                          · refine ⟨_, F, setRow_heap hw, rfl, ?_, ?_, ?_, (fun e => by cases e), hsz⟩
                            · have hle := Ren.le_add (ρ := ρ) ⟨p.blk, p.off + o, (old ++ new).length, sCap' - (sLen + n), info.size⟩ hR.none_next
                              refine CRel.mono hle ?_
                              intro i y hy
                              show ∃ y', (splice C.toList (p.off + o + sLen * info.size) new')[p.off + o + i]? = some y' ∧ VRel ρ y y'
                              rw [splice_get _ _ _ (by simp; omega)]
                              by_cases hi' : i < old.length
                              · rw [List.getElem?_append_left hi'] at hy
                                rw [if_neg (by omega)]
                                -- what was there
                                have hrow : S.row b = some cs := by unfold St.row; rw [hx0]
                                have hcs : cs[o + i]? = some y := by
                                  unfold firstA at hf
                                  cases hz0 : Nat.beq (sLen * info.size) 0 with
                                  | true => have := Nat.eq_of_beq_eq_true hz0; omega
                                  | false =>
                                    rw [hz0] at hf
                                    simp only [cond_false] at hf
                                    rw [show Nat.ble sLen sLen = true from Nat.ble_eq_true_of_le (Nat.le_refl _)] at hf
                                    simp only [cond_true, cellsAt, hrow] at hf
                                    cases hb2 : Nat.ble (o + sLen * info.size) cs.length with
                                    | false => rw [hb2] at hf; cases hf
                                    | true =>
                                      rw [hb2] at hf
                                      simp only [cond_true, Option.some.injEq] at hf
                                      subst hf
                                      rw [List.getElem?_take, if_pos (by omega), List.getElem?_drop] at hy
                                      exact hy
                                obtain ⟨y', hy', hv'⟩ := hC (o + i) y hcs
                                exact ⟨y', by rw [← Nat.add_assoc] at hy'; exact hy', hv'⟩
                              · rw [List.getElem?_append_right (by omega)] at hy
                                have hlt : i - old.length < new.length := by
                                  rcases Nat.lt_or_ge (i - old.length) new.length with h | h
                                  · exact h
                                  · rw [List.getElem?_eq_none h] at hy; cases hy
                                rw [if_pos (by omega), show p.off + o + i - (p.off + o + sLen * info.size) = i - old.length by omega]
                                exact hLn.get hy
                            · show F.1 = F.2 ∨ (splice C.toList (p.off + o + sLen * info.size) new').length ≤ F.1
                              rw [hCs]; exact hF
                            · show p.off + o + (old ++ new).length + (sCap' - (sLen + n)) * info.size ≤ (splice C.toList (p.off + o + sLen * info.size) new').length
                              rw [hCs, hlen]
                              have : (sLen + n) * info.size + (sCap' - (sLen + n)) * info.size = sCap' * info.size := by rw [← Nat.add_mul]; congr 1; omega
                              omega
                    · obtain ⟨c, hc1, hrun⟩ := hout hroom old' (hold _ rfl)
                      have hdr : Rel P ρ S1 (drewW w (w.drawn + 1)) := hR1.heap rfl
                      have hds : Step ρ S w ρ S1 (drewW w (w.drawn + 1)) := hS1.trans (Step.draw ρ S1 rfl rfl rfl rfl)
                      have hzs : z.cells.size = info.size := by simpa using c4
                      have hlo : (old' ++ new').length = (sLen + n) * info.size := by rw [← hL.1, hlen]
                      obtain ⟨ρ', hv, h1, h2⟩ := newSlice_sim hdr hsz (C := ⟨old'⟩ ++ ⟨new'⟩ ++ Builtin.zeroCells z.cells (c - (sLen + n))) (F := (0, 0)) hL (fun i y hy => by
                          have hi' : i < (old' ++ new').length := by
                            rcases Nat.lt_or_ge i (old' ++ new').length with h | h
                            · exact h
                            · rw [List.getElem?_eq_none h] at hy; cases hy
                          simp only [Array.toList_append]
                          rw [List.getElem?_append_left hi']; exact hy) (c - (sLen + n)) (fun e => by cases e) (by
                            have h1 : (⟨old'⟩ ++ ⟨new'⟩ : Array Value).size = (old' ++ new').length := by simp
                            rw [Array.size_append, h1, zeroCells_size, hzs, hlen, hlo]; exact Nat.le_refl _) (.inl rfl) (fun _ => hlen)
                        (w' := grow (drewW w (w.drawn + 1)) (.cells (⟨old'⟩ ++ ⟨new'⟩ ++ Builtin.zeroCells z.cells (c - (sLen + n))) elem (0, 0))) rfl rfl rfl rfl h
                      refine ⟨_, _, ρ', hrun, ?_, h1, hds.trans h2⟩
                      rw [show sLen + n + (c - (sLen + n)) = c by omega] at hv
                      exact hv
  · cases h

theorem firstA_zero {size : Nat} {x : Value} {new : List Value} (h : firstA S size 0 x = some new) : new = [] := by
  unfold firstA at h
  split at h
  · rw [Nat.zero_mul] at h; cases h; rfl
  · rw [Nat.zero_mul] at h; cases h; rfl
  · cases hq : Nat.beq size 1 with
    | false => rw [hq] at h; cases h
    | true => rw [hq] at h; cases h; simp [cellsOfBytes]
  · cases h

theorem acopy_sim (hR : Rel P ρ S w) {argTypes : Array TypeId} {ty : TypeId} {args args' : List Value} {v : Value} (hA : LRel ρ args args') (h : acopy P S argTypes args = some (v, S')) :
    ∃ v' w' ρ', (Builtin.copy_ argTypes ty ⟨args'⟩).run P w = .ok v' w' ∧ VRel ρ' v v' ∧ Rel P ρ' S' w' ∧ Step ρ S w ρ' S' w' := by
  unfold acopy at h
  split at h
  · rename_i dT base dLen dCap src h0
    obtain ⟨s', r', rfl, hs, hA⟩ := hA.inv_cons
    obtain ⟨x', r'', rfl, hx, hA⟩ := hA.inv_cons
    obtain rfl := hA.inv_nil
    obtain ⟨base', sCap', rfl⟩ := slice_inv hs
    cases hu : P.underlying dT with
    | none => rw [hu] at h; simp at h
    | some D =>
      rw [hu] at h
      cases D <;> simp only [reduceCtorEq] at h
      rename_i elem
      cases hsz : sizeT P elem with
      | none => rw [hsz] at h; simp at h
      | some size =>
        cases hl : lenA src with
        | none => rw [hsz, hl] at h; simp at h
        | some sl =>
          rw [hsz, hl] at h; simp only at h
          have hmin : (bif Nat.ble sl dLen then sl else dLen) = Nat.min sl dLen := by
            show _ = min sl dLen
            cases hb : Nat.ble sl dLen with
            | true => have := Nat.le_of_ble_eq_true hb; simp; omega
            | false =>
              have : ¬ sl ≤ dLen := fun e => by rw [Nat.ble_eq_true_of_le e] at hb; cases hb
              simp; omega
          rw [hmin] at h
          cases hf : firstA S size (Nat.min sl dLen) src with
          | none => rw [hf] at h; cases h
          | some new =>
            rw [hf] at h; simp only at h
            cases hone : new.all Mir.oneCell with
            | false => rw [hone] at h; cases h
            | true =>
              rw [hone] at h; simp only [cond_true] at h
              obtain ⟨new', hrn, hLn⟩ := firstA_sim hR hx hf
              have e0 : (#[Value.slice base' dLen sCap', x'] : Array Value)[0]? = some (.slice base' dLen sCap') := rfl
              have e1 : (#[Value.slice base' dLen sCap', x'] : Array Value)[1]? = some x' := rfl
              have pre : ∀ w1, (match base' with | some a => storeCells a new' | none => pure ()).run P w = .ok () w1 →
                  (Builtin.copy_ argTypes ty #[.slice base' dLen sCap', x']).run P w = .ok (.int .i64 (Int.ofNat (Nat.min sl dLen))) w1 := by
                intro w1 hw1
                unfold Builtin.copy_
                simp only [h0, e0, e1, Sem.run_bind, run_und hu, run_size hsz, Result.andThen_ok, lenA_sim hx hl, hrn w rfl]
                cases base' with
                | none => simp only [Sem.run_pure, Result.ok.injEq, true_and] at hw1; subst hw1; rfl
                | some a => simp only [Sem.run_bind, hw1, Result.andThen_ok, Sem.run_pure]; rfl
              cases hs with
              | sliceNil =>
                simp only [Option.some.injEq, Prod.mk.injEq] at h
                obtain ⟨rfl, rfl⟩ := h
                exact ⟨_, w, ρ, pre w rfl, .int _ _, hR, .refl _ _ _⟩
              | slice0 a a' =>
                simp only at h
                have hm0 : Nat.min sl 0 = 0 := Nat.min_zero sl
                rw [hm0] at hf h
                have := firstA_zero hf
                subst this
                obtain rfl := hLn.inv_nil
                simp only [storeCellsA, Option.some.injEq, Prod.mk.injEq] at h
                obtain ⟨rfl, rfl⟩ := h
                have := pre w rfl
                rw [hm0] at this
                exact ⟨_, w, ρ, this, .int _ _, hR, .refl _ _ _⟩
              | slice b o l c c' p hb hcc =>
                simp only at h
                cases hst : storeCellsA S ⟨b, o, none⟩ new with
                | none => rw [hst] at h; cases h
                | some S1 =>
                  rw [hst] at h; simp only [Option.some.injEq, Prod.mk.injEq] at h
                  obtain ⟨rfl, rfl⟩ := h
                  obtain ⟨w1, hrun, hR1, hS1⟩ := storeCellsA_sim hR hb hLn hone hst
                  exact ⟨_, w1, ρ, pre w1 hrun, .int _ _, hR1, hS1⟩
  · cases h
end
end Go.Mir

namespace Go.Mir
open Go
section
variable {P : Program} {ρ : Ren} {S S' : St} {w : World}

theorem bytesOfCells_inv : ∀ (cs : List Value) (b : List UInt8), bytesOfCells cs = some b → ∃ ns : List Int, cs = ns.map (Value.int .u8) ∧ b = ns.map fun n => UInt8.ofNat n.toNat
  | [], b, h => by cases h; exact ⟨[], rfl, rfl⟩
  | c :: cs, b, h => by
    unfold bytesOfCells at h
    split at h
    · rename_i e; cases e
    · rename_i n r e
      cases e
      cases hr : bytesOfCells cs with
      | none => rw [hr] at h; cases h
      | some b' =>
        rw [hr] at h; cases h
        obtain ⟨ns, rfl, rfl⟩ := bytesOfCells_inv cs b' hr
        exact ⟨n :: ns, rfl, rfl⟩
    · cases h

theorem ints_rel : ∀ (ns : List Int) (l : List Value), LRel ρ (ns.map (Value.int .u8)) l → l = ns.map (Value.int .u8)
  | [], l, h => h.inv_nil
  | n :: ns, l, h => by
    obtain ⟨y, ys, rfl, hv, ht⟩ := h.inv_cons
    cases hv
    rw [ints_rel ns ys ht]; rfl

theorem foldl_push : ∀ (ns : List Int) (l : List UInt8), ns.foldl (fun (r : ByteArray) n => r.push (UInt8.ofNat n.toNat)) ⟨⟨l⟩⟩ = ⟨⟨l ++ ns.map fun n => UInt8.ofNat n.toNat⟩⟩
  | [], l => by simp
  | n :: ns, l => by
    rw [List.foldl_cons]
    have : (⟨⟨l⟩⟩ : ByteArray).push (UInt8.ofNat n.toNat) = ⟨⟨l ++ [UInt8.ofNat n.toNat]⟩⟩ := by
      show (⟨(⟨l⟩ : Array UInt8).push _⟩ : ByteArray) = _
      congr 1
      apply Array.ext'
      simp
    rw [this, foldl_push ns]
    simp

theorem toStringA_sim (hR : Rel P ρ S w) {e : TypeId} {a : Option Addr} {l c : Nat} {x' v : Value} (hx : VRel ρ (.slice a l c) x') (h : toStringA P S e a l = some (v, S')) :
    S' = S ∧ P.underlying e = some (.int .u8) ∧ (Conv.bytesToString x').run P w = .ok v w ∧ VRel ρ v v := by
  unfold toStringA at h
  split at h
  · rename_i he
    refine ⟨?_, he, ?_⟩
    · cases a with
      | none => cases h; rfl
      | some a =>
        simp only at h
        cases hc : cellsAt S a l with
        | none => rw [hc] at h; cases h
        | some cs =>
          rw [hc] at h; simp only at h
          cases hb : bytesOfCells cs with
          | none => rw [hb] at h; cases h
          | some b => rw [hb] at h; cases h; rfl
    · cases hx with
      | sliceNil => cases h; exact ⟨rfl, .string _⟩
      | slice0 a a' =>
        simp only at h
        cases hc : cellsAt S a 0 with
        | none => rw [hc] at h; cases h
        | some cs =>
          have : cs = [] := by
            unfold cellsAt at hc
            split at hc
            · rename_i cs' _ _
              cases hb : Nat.ble (a.off + 0) cs'.length with
              | false => rw [hb] at hc; cases hc
              | true => rw [hb] at hc; cases hc; simp
            · cases hc
          subst this
          rw [hc] at h; cases h
          exact ⟨rfl, .string _⟩
      | slice b o _ _ c' p hb hcc =>
        simp only at h
        cases hc : cellsAt S ⟨b, o, none⟩ l with
        | none => rw [hc] at h; cases h
        | some cs =>
          rw [hc] at h; simp only at h
          cases hbs : bytesOfCells cs with
          | none => rw [hbs] at h; cases h
          | some bs =>
            rw [hbs] at h; cases h
            obtain ⟨ns, rfl, rfl⟩ := bytesOfCells_inv _ _ hbs
            obtain ⟨l', hrun, hL⟩ := cellsAt_sim hR hb hc
            obtain rfl := ints_rel ns l' hL
            have := run_bytesToString w ⟨p.blk, p.off + o, none⟩ l c' ns (hrun w rfl)
            refine ⟨?_, .string _⟩
            rw [this]
            have := foldl_push ns []
            rw [show (ByteArray.empty : ByteArray) = ⟨⟨[]⟩⟩ from rfl, this]
            rfl
  · cases h

theorem run_markStringish {B o : Nat} {C : Array Value} {e : TypeId} {F : Nat × Nat} (h : w.heap[B]? = some (.cells C e F)) :
    ∃ F', (markStringish ⟨B, o, none⟩).run P w = .ok () { w with heap := w.heap.setIfInBounds B (.cells C e F') } ∧ ((F.1 = F.2 ∨ C.size ≤ F.1) → C.size ≤ F'.1) := by
  obtain ⟨lo, hi⟩ := F
  refine ⟨if lo == hi then (C.size, C.size + 1) else (min lo C.size, max hi (C.size + 1)), ?_, ?_⟩
  · have hB : B < w.heap.size := by
      rcases Nat.lt_or_ge B w.heap.size with h' | h'
      · exact h'
      · rw [Array.getElem?_eq_none h'] at h; cases h
    unfold markStringish
    have hs : (shape B).run P w = .ok (some (e, C.size)) w := by
      unfold shape; simp only [Sem.run, World.shape?, h]
    simp only [Sem.run_bind, hs, Result.andThen_ok]
    unfold freeze
    simp only [Sem.run]
    congr 1
    unfold World.freeze
    rw [if_neg (by omega)]
    congr 1
    apply Array.ext_getElem?
    intro i
    rw [Array.getElem?_modify, Array.getElem?_setIfInBounds]
    by_cases hi' : B = i
    · subst hi'
      rw [if_pos rfl, if_pos rfl, h, if_pos hB]
      rfl
    · rw [if_neg hi', if_neg hi']
  · intro hF
    simp only at hF
    by_cases e : lo = hi
    · subst e; simp
    · have : (lo == hi) = false := by simpa using e
      rw [this]
      simp
      rcases hF with h | h
      · exact absurd h e
      · omega

theorem toBytesA_sim (hR : Rel P ρ S w) {e : TypeId} {b : ByteArray} {v : Value} (h : toBytesA P S e b.data.toList = some (v, S')) :
    P.underlying e = some (.int .u8) ∧ ∃ v' w' ρ', (Conv.stringToBytes e b).run P w = .ok v' w' ∧ VRel ρ' v v' ∧ Rel P ρ' S' w' ∧ Step ρ S w ρ' S' w' := by
  unfold toBytesA at h
  split at h
  · rename_i he hs
    refine ⟨he, ?_⟩
    cases hb : Nat.ble b.data.toList.length 1099511627776 with
    | false => rw [hb] at h; cases h
    | true =>
      rw [hb] at h; simp only [cond_true] at h
      obtain ⟨c, hch, hcc⟩ := run_choose_cap (P := P) (w := w) (need := b.size) (old := 0) (e := e)
      let C : Array Value := (b.data.map fun b => Value.int .u8 b.toNat) ++ Array.replicate (c - b.size) (.int .u8 0)
      let w1 := grow (drewW w (w.drawn + 1)) (.cells C e (0, 0))
      have hw1 : w1.heap[w.heap.size]? = some (.cells C e (0, 0)) := grow_heap _ _
      obtain ⟨F', hm, hF'⟩ := run_markStringish (P := P) (o := 0) hw1
      have hF := hF' (.inl rfl)
      have hrun : (Conv.stringToBytes e b).run P w = .ok (.slice (some ⟨w.heap.size, 0, none⟩) b.size c) { w1 with heap := w1.heap.setIfInBounds w.heap.size (.cells C e F') } := by
        unfold Conv.stringToBytes
        simp only [Sem.run_bind, hch, Result.andThen_ok]
        rw [show (newRow e ((b.data.map fun b => Value.int .u8 b.toNat) ++ Array.replicate (c - b.size) (.int .u8 0))).run P (drewW w (w.drawn + 1)) = .ok ⟨w.heap.size, 0, none⟩ w1 from rfl]
        simp only [Result.andThen_ok, hm, Sem.run_pure]
      have hlen : b.data.toList.length = b.size := rfl
      have hlen2 : b.data.size = b.size := rfl
      obtain ⟨ρ', hv, h1, h2⟩ := newSlice_sim (hR.heap (w' := drewW w (w.drawn + 1)) rfl) hs (C := C) (F := F') (cs' := cellsOfBytes b.data.toList) (cellsOfBytes_rel ρ _) (fun i y hy => by
          have hi : i < (cellsOfBytes b.data.toList).length := by
            rcases Nat.lt_or_ge i (cellsOfBytes b.data.toList).length with h | h
            · exact h
            · rw [List.getElem?_eq_none h] at hy; cases hy
          show C.toList[i]? = some y
          simp only [C, Array.toList_append, Array.toList_map]
          rw [List.getElem?_append_left (by simpa [cellsOfBytes] using hi)]
          exact hy) (c - b.size) (fun e => by cases e) (by simp [C, cellsOfBytes]) (.inr hF) (fun _ => by simp [cellsOfBytes])
        (w' := { w1 with heap := w1.heap.setIfInBounds w.heap.size (.cells C e F') }) (by
          show (w.heap.push (.cells C e (0, 0))).setIfInBounds w.heap.size (.cells C e F') = w.heap.push (.cells C e F')
          apply Array.ext_getElem?
          intro i
          rw [Array.getElem?_setIfInBounds, Array.getElem?_push, Array.getElem?_push]
          by_cases hi : w.heap.size = i
          · subst hi; simp
          · rw [if_neg hi, if_neg (fun e => hi e.symm), if_neg (fun e => hi e.symm)]) rfl rfl rfl h
      refine ⟨_, _, ρ', hrun, ?_, h1, (Step.draw ρ S (w := w) (w' := drewW w (w.drawn + 1)) rfl rfl rfl rfl).trans h2⟩
      rw [hlen, show b.size + (c - b.size) = c by omega] at hv
      exact hv
  · cases h

theorem sameBytesA_sim (hR : Rel P ρ S w) {src dst e : TypeId} {a : Addr} {l c : Nat} {x' v : Value} (hx : VRel ρ (.slice (some a) l c) x') (h : sameBytesA P S src dst e a l c = some (v, S')) :
    P.underlying e = some (.int .u8) ∧ src = dst ∧ S' = S ∧ VRel ρ v x' ∧ ∃ a' l' c' w', x' = .slice (some a') l' c' ∧ (markStringish a').run P w = .ok () w' ∧ Rel P ρ S w' ∧ Step ρ S w ρ S w' := by
  unfold sameBytesA at h
  split at h
  · rename_i cs e' g he hx0
    cases hc : (Nat.beq src dst && !(Nat.beq c 0)) with
    | false => rw [hc] at h; cases h
    | true =>
      rw [hc] at h; cases h
      simp only [Bool.and_eq_true, Bool.not_eq_true'] at hc
      refine ⟨he, Nat.eq_of_beq_eq_true hc.1, rfl, hx, ?_⟩
      cases hx with
      | slice0 => simp at hc
      | slice b o _ _ c' p hb hcc =>
        obtain ⟨C, F, hw, hlen, hC, hF, htop, hg, hsz⟩ := hR.blk b p _ hb hx0
        obtain ⟨F', hm, hF'⟩ := run_markStringish (P := P) (o := p.off + o) hw
        have hB : p.blk < w.heap.size := (hR.dom b p hb).2
        refine ⟨_, _, _, _, rfl, hm, hR.turn (x' := .cells cs e' g) hb hx0 rfl (fun m => ?_) rfl rfl rfl rfl rfl ?_ (fun _ => rfl)⟩
        · by_cases em : m = b
          · subst em; rw [if_pos rfl]; exact hx0
          · rw [if_neg em]
        · exact ⟨C, F', by simp [hB], hlen, hC, .inr (hF' hF), htop, hg, hsz⟩
  · cases h

theorem aconvert_sim (hR : Rel P ρ S w) {src dst : TypeId} {x x' v : Value} (hx : VRel ρ x x') (h : aconvert P S src dst x = some (v, S')) :
    ∃ v' w' ρ', (convert src dst x').run P w = .ok v' w' ∧ VRel ρ' v v' ∧ Rel P ρ' S' w' ∧ Step ρ S w ρ' S' w' := by
  unfold aconvert at h
  split at h
  · rename_i k n
    cases hx
    split at h
    · rename_i D k' hs hd
      cases h
      refine ⟨.int k' (wrapA k' n), w, ρ, ?_, .int _ _, hR, .refl _ _ _⟩
      unfold convert
      simp only [Sem.run_bind, run_und hs, run_und hd, Result.andThen_ok]
      rw [wrapA_eq]
      cases D <;> rfl
    · rename_i D hs hd
      cases h
      refine ⟨.string (Utf8.encode n), w, ρ, ?_, .string _, hR, .refl _ _ _⟩
      unfold convert
      simp only [Sem.run_bind, run_und hs, run_und hd, Result.andThen_ok]
      cases D <;> rfl
    · cases h
  · rename_i b
    cases hx
    split at h
    · rename_i D hs hd
      cases h
      refine ⟨.string b, w, ρ, ?_, .string _, hR, .refl _ _ _⟩
      unfold convert
      simp only [Sem.run_bind, run_und hs, run_und hd, Result.andThen_ok]
      cases D <;> rfl
    · rename_i D e hs hd
      obtain ⟨he, v', w', ρ', hrun, hv, h1, h2⟩ := toBytesA_sim hR h
      refine ⟨v', w', ρ', ?_, hv, h1, h2⟩
      unfold convert
      simp only [Sem.run_bind, run_und hs, run_und hd, Result.andThen_ok]
      cases D <;> simp only [Sem.run_bind, run_und he, Result.andThen_ok, hrun]
    · cases h
  · rename_i a l c
    split at h
    · rename_i es e hs hd
      cases a with
      | none => cases h
      | some a =>
        simp only at h
        obtain ⟨he, rfl, rfl, hv, a', l', c', w', rfl, hm, h1, h2⟩ := sameBytesA_sim hR hx h
        refine ⟨_, w', ρ, ?_, hv, h1, h2⟩
        unfold convert
        simp only [Sem.run_bind, run_und hs, Result.andThen_ok, run_und hd, beq_self_eq_true]
        rw [hs] at hd; cases hd
        simp only [run_und he, Result.andThen_ok, Sem.run_bind, hm, Sem.run_pure]
    · rename_i e hs hd
      obtain ⟨rfl, he, hrun, hv⟩ := toStringA_sim hR hx h
      refine ⟨v, w, ρ, ?_, hv, hR, .refl _ _ _⟩
      have hx2 : ∃ a' l' c', x' = .slice a' l' c' := by obtain ⟨a', c', rfl⟩ := slice_inv hx; exact ⟨_, _, _, rfl⟩
      obtain ⟨a', l', c', rfl⟩ := hx2
      rw [run_convert_bytes_string w src dst e a' l' c' hs he hd]
      exact hrun
    · cases h
  · cases h
end
end Go.Mir

namespace Go.Mir
open Go
section
variable {P : Program} {ρ : Ren} {S S' : St} {w : World}

theorem ptr_inv {a : Addr} {y : Value} (h : VRel ρ (.pointer (some a)) y) : ∃ b o p, a = ⟨b, o, none⟩ ∧ ρ b = some p ∧ y = .pointer (some ⟨p.blk, p.off + o, none⟩) := by
  cases h with
  | ptr b o p hb => exact ⟨b, o, p, rfl, hb, rfl⟩

theorem aindexAddr_sim {t : TypeId} {x x' ix ix' v : Value} (hx : VRel ρ x x') (hi : VRel ρ ix ix') (h : aindexAddr P t x ix = some v) : ∃ v', (Instr.indexAt t x' ix').run P w = .ok v' w ∧ VRel ρ v v' := by
  unfold aindexAddr at h
  split at h
  · rename_i len elem a k i hu
    obtain ⟨b, o, p, rfl, hb, rfl⟩ := ptr_inv hx
    cases hi
    cases hlt : Nat.blt i len with
    | false => rw [hlt] at h; cases h
    | true =>
      rw [hlt] at h; simp only [cond_true] at h
      have hlt' : i < len := Nat.le_of_ble_eq_true hlt
      cases hs : sizeT P elem with
      | none => rw [hs] at h; cases h
      | some sz =>
        rw [hs] at h
        simp only [Option.map_some, Option.some.injEq] at h
        subst h
        refine ⟨.pointer (some ((⟨p.blk, p.off + o, none⟩ : Addr).add (i * sz))), ?_, ?_⟩
        · unfold Instr.indexAt
          simp only [Sem.run_bind, asIntOf, Sem.run_pure, Result.andThen_ok, run_und hu, Instr.sureAddr]
          rw [if_pos (by constructor <;> simp <;> omega)]
          simp only [Sem.run_bind, run_size hs, Result.andThen_ok, Sem.run_pure]
          rfl
        · rw [addr_add, addr_add, Nat.add_assoc]
          exact .ptr b (o + i * sz) p hb
  · rename_i elem a len c k i hu
    cases hi
    cases hlt : Nat.blt i len with
    | false => rw [hlt] at h; cases h
    | true =>
      rw [hlt] at h; simp only [cond_true] at h
      have hlt' : i < len := Nat.le_of_ble_eq_true hlt
      cases hs : sizeT P elem with
      | none => rw [hs] at h; cases h
      | some sz =>
        rw [hs] at h
        simp only [Option.map_some, Option.some.injEq] at h
        subst h
        cases hx with
        | slice0 => omega
        | slice b o _ _ c' p hb hcc =>
          refine ⟨.pointer (some ((⟨p.blk, p.off + o, none⟩ : Addr).add (i * sz))), ?_, ?_⟩
          · unfold Instr.indexAt
            simp only [Sem.run_bind, asIntOf, Sem.run_pure, Result.andThen_ok, run_und hu]
            rw [if_pos (by constructor <;> simp <;> omega)]
            simp only [Sem.run_bind, run_size hs, Result.andThen_ok, Sem.run_pure]
            rfl
          · rw [addr_add, addr_add, Nat.add_assoc]
            exact .ptr b (o + i * sz) p hb
  · cases h

theorem aindex_sim {t : TypeId} {x x' ix ix' v : Value} (hx : VRel ρ x x') (hi : VRel ρ ix ix') (h : aindex P t x ix = some v) : ∃ v', (Instr.index t x' ix').run P w = .ok v' w ∧ VRel ρ v v' := by
  unfold aindex at h
  split at h
  · rename_i len elem cs k i hu
    cases hi
    cases hx with
    | agg _ ds hl hh =>
    cases hlt : Nat.blt i len with
    | false => rw [hlt] at h; cases h
    | true =>
      rw [hlt] at h; simp only [cond_true] at h
      have hlt' : i < len := Nat.le_of_ble_eq_true hlt
      cases hs : sizeT P elem with
      | none => rw [hs] at h; cases h
      | some sz =>
        rw [hs] at h; simp only at h
        obtain ⟨v', hr, hv⟩ := partT_sim (w := w) (cs' := ds) ⟨hl, hh⟩ h
        refine ⟨v', ?_, hv⟩
        unfold Instr.index
        simp only [Sem.run_bind, asIntOf, Sem.run_pure, Result.andThen_ok, run_und hu]
        rw [if_pos (by constructor <;> simp <;> omega)]
        simp only [Sem.run_bind, run_size hs, Result.andThen_ok]
        exact hr
  · rename_i b k i hu
    cases hi; cases hx
    cases hg : b.data.toList[i]? with
    | none => rw [hg] at h; cases h
    | some c =>
      rw [hg] at h; cases h
      refine ⟨.int .u8 c.toNat, ?_, .int _ _⟩
      unfold Instr.index
      simp only [Sem.run_bind, asIntOf, Sem.run_pure, Result.andThen_ok, run_und hu]
      have : (if (0 : Int) ≤ Int.ofNat i then b[(Int.ofNat i).toNat]? else none) = some c := by
        rw [if_pos (by simp)]
        show b[i]? = some c
        have hi' : i < b.data.toList.length := by
          rcases Nat.lt_or_ge i b.data.toList.length with h | h
          · exact h
          · rw [List.getElem?_eq_none h] at hg; cases hg
        have hi2 : i < b.size := by simpa using hi'
        rw [getElem?_pos b i hi2]
        rw [List.getElem?_eq_getElem hi'] at hg
        cases hg
        rfl
      simp only [this]
      rfl
  · cases h

theorem opField_sim {t : TypeId} {f : Nat} {x x' v : Value} (hx : VRel ρ x x') (h : opField P S t f x = some (.val v S')) : S' = S ∧ ∃ v', (Instr.field t x' f).run P w = .ok v' w ∧ VRel ρ v v' := by
  unfold opField at h
  split at h
  · rename_i fields cs hu
    cases hx with
    | agg _ ds hl hh =>
    cases hf : fields[f]? with
    | none => rw [hf] at h; cases h
    | some fd =>
      rw [hf] at h; simp only at h
      obtain ⟨v0, hp, he⟩ := rv_some h
      cases he
      obtain ⟨v', hr, hv⟩ := partT_sim (w := w) (cs' := ds) ⟨hl, hh⟩ hp
      refine ⟨rfl, v', ?_, hv⟩
      unfold Instr.field
      simp only [Sem.run_bind, run_und hu, Result.andThen_ok, hf, asAgg, Sem.run_pure]
      exact hr
  · cases h

theorem opFieldAddr_sim {t : TypeId} {f : Nat} {x x' v : Value} (hx : VRel ρ x x') (h : opFieldAddr P S t f x = some (.val v S')) : S' = S ∧ ∃ v', (Instr.fieldAt t x' f).run P w = .ok v' w ∧ VRel ρ v v' := by
  unfold opFieldAddr at h
  split at h
  · rename_i fields a hu
    obtain ⟨b, o, p, rfl, hb, rfl⟩ := ptr_inv hx
    cases hf : fields[f]? with
    | none => rw [hf] at h; cases h
    | some fd =>
      rw [hf] at h; simp only at h
      split at h
      · rename_i n hs
        cases h
        refine ⟨rfl, .pointer (some ((⟨p.blk, p.off + o, none⟩ : Addr).add fd.offset)), ?_, ?_⟩
        · unfold Instr.fieldAt
          simp only [Sem.run_bind, run_und hu, Result.andThen_ok, hf, Instr.sureAddr, Sem.run_pure, fieldPlace, run_size hs]
          rw [if_neg (by omega)]; rfl
        · rw [addr_add, addr_add, Nat.add_assoc]
          exact .ptr b (o + fd.offset) p hb
      · cases h
  · cases h

theorem opExtract_sim {ix : Nat} {x x' v : Value} (hx : VRel ρ x x') (h : opExtract S ix x = some (.val v S')) : S' = S ∧ ∃ v', (Instr.extract x' ix).run P w = .ok v' w ∧ VRel ρ v v' := by
  unfold opExtract at h
  split at h
  · rename_i xs
    obtain ⟨v0, hp, he⟩ := rv_some h
    cases he
    refine ⟨rfl, ?_⟩
    cases hx with
    | any => simp at hp
    | tuple _ ds hl hh =>
      obtain ⟨y, hy, hv⟩ := LRel.get ⟨hl, hh⟩ hp
      refine ⟨y, ?_, hv⟩
      unfold Instr.extract
      rw [Array.getElem?_toList] at hy
      simp only [hy]; rfl
  · cases h

theorem okTuple_sim {ok : Bool} {v v' : Value} {b : Bool} (hv : VRel ρ v v') : VRel ρ (okTuple ok v b) (if ok then .tuple #[v', .bool b] else v') := by
  cases ok with
  | false => exact hv
  | true =>
    have := LRel.cons hv (.cons (.bool b) (.nil ρ))
    exact .tuple _ _ this.1 this.2

theorem failsA_sim {t : TypeId} {ok : Bool} {v : Value} {st dy : Option TypeId} {ms : String} (h : failsA P t ok = some v) :
    (do if ok then pure (.tuple #[← zeroValue t, .bool false]) else runtimePanic (.typeAssertion st dy t ms) : Sem Value).run P w = .ok v w ∧ VRel ρ v v := by
  unfold failsA at h
  cases ok with
  | false => cases h
  | true =>
    simp only at h
    cases hz : zeroT P t with
    | none => rw [hz] at h; cases h
    | some z =>
      rw [hz] at h; cases h
      refine ⟨by simp only [if_true, Sem.run_bind, run_zero hz, Result.andThen_ok, Sem.run_pure], ?_⟩
      have := LRel.cons (VRel.plain ρ (zeroT_info hz).choose_spec.2.2) (.cons (.bool false) (.nil ρ))
      exact .tuple _ _ this.1 this.2

theorem atypeAssert_sim {xt t : TypeId} {ok : Bool} {x x' v : Value} (hx : VRel ρ x x') (h : atypeAssert P x t ok = some v) : ∃ v', (Instr.typeAssert x' xt t ok).run P w = .ok v' w ∧ VRel ρ v v' := by
  unfold atypeAssert at h
  unfold Instr.typeAssert
  split at h
  · rename_i ms hu
    cases hx
    obtain ⟨hr, hv⟩ := failsA_sim (w := w) (ρ := ρ) (st := none) (dy := none) (ms := "") h
    refine ⟨v, ?_, hv⟩
    simp only [Sem.run_bind, run_und hu, Result.andThen_ok]
    exact hr
  · rename_i want tx vx hu
    cases hx with
    | iface _ _ vy hv0 =>
    cases hi : P.info? tx with
    | none => rw [hi] at h; cases h
    | some i =>
      rw [hi] at h; simp only at h
      simp only [Sem.run_bind, run_und hu, Result.andThen_ok, run_info hi]
      cases hm : Instr.missingMethod want i.methods with
      | none =>
        rw [hm] at h; cases h
        exact ⟨_, rfl, okTuple_sim (.iface _ _ _ hv0)⟩
      | some m =>
        rw [hm] at h
        obtain ⟨hr, hv⟩ := failsA_sim (w := w) (ρ := ρ) (st := none) (dy := some tx) (ms := m) h
        exact ⟨v, hr, hv⟩
  · rename_i D hno hu
    cases hx
    obtain ⟨hr, hv⟩ := failsA_sim (w := w) (ρ := ρ) (st := some xt) (dy := none) (ms := "") h
    refine ⟨v, ?_, hv⟩
    simp only [Sem.run_bind, run_und hu, Result.andThen_ok]
    cases D <;> first | exact hr | exact absurd hu (by rename_i ms _; exact fun e => hno ms e)
  · rename_i D tx vx hno hu
    cases hx with
    | iface _ _ vy hv0 =>
    simp only [Sem.run_bind, run_und hu, Result.andThen_ok]
    cases hb : Nat.beq tx t with
    | true =>
      obtain rfl := Nat.eq_of_beq_eq_true hb
      rw [hb] at h; cases h
      refine ⟨_, ?_, okTuple_sim hv0⟩
      cases D <;> first | (simp only [if_true]; rfl) | exact absurd hu (by rename_i ms; exact fun e => hno ms _ _ e rfl)
    | false =>
      rw [hb] at h
      have hne : tx ≠ t := fun e => by subst e; simp at hb
      obtain ⟨hr, hv⟩ := failsA_sim (w := w) (ρ := ρ) (st := some xt) (dy := some tx) (ms := "") h
      refine ⟨v, ?_, hv⟩
      cases D <;> first | (simp only [hne, if_false]; exact hr) | exact absurd hu (by rename_i ms; exact fun e => hno ms _ _ e rfl)
  · cases h
end
end Go.Mir
