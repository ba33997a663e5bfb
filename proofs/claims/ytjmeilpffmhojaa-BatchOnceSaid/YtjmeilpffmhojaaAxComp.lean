/- From the model's code to the abstract interpreter's: a function, and what it takes. -/
import Derived.Test.YtjmeilpffmhojaaAxCore
set_option linter.unusedVariables false
namespace Go.Ax
open Go

def sizeT (P : Program) (t : TypeId) : Option Nat := (P.info? t).map (·.size)

/-- The kinds of a type's cells. -/
def leaves (P : Program) : Nat → TypeId → Option (List Leaf)
  | 0, _ => none
  | d + 1, t => match P.underlying t with
    | some (.int k) => some [.int k]
    | some .bool => some [.bool]
    | some .string => some [.str]
    | some (.pointer _) => some [.ptr]
    | some (.slice _) => some [.slice]
    | some (.func _ _ _) => some [.any]
    | some (.map _ _) => some [.any]
    | some (.struct fs) => (fs.toList.mapM fun f => leaves P d f.type).map List.flatten
    | some (.array n e) => (leaves P d e).map fun l => (List.replicate n l).flatten
    | _ => none

def isAggT (P : Program) (t : TypeId) : Bool :=
  match P.underlying t with
  | some (.struct _) => true
  | some (.array _ _) => true
  | _ => false

/-- A type as `view1` wants it. -/
def ty1 (P : Program) (t : TypeId) : Option (Bool × List Leaf) :=
  (leaves P 20 t).bind fun l => if sizeT P t = some l.length then some (isAggT P t, l) else none

def flatLf : Leaf → Bool
  | .int _ => true
  | .bool => true
  | .str => true
  | _ => false

def flatTy (x : Bool × List Leaf) : Bool := x.2.all flatLf

def zeroL (P : Program) (t : TypeId) : Option (List Value) :=
  (P.info? t).bind fun i => i.zero.bind fun z => if (cellsL z).length = i.size ∧ (cellsL z).all flatLeaf then some (cellsL z) else none

/-- The kind of a nil constant. -/
def nilKind (d : TypeDesc) (x : Operand) : Option Nat :=
  match d, x with
  | .pointer _, .const (.pointer none) => some 0
  | .slice _, .const (.slice none _ _) => some 1
  | .func _ _ _, .const .nilFunc => some 2
  | _, _ => none

/-- Are values of this type equal just if their cells are, one by one, in order? Numbers and bools alone. -/
def eqTy (P : Program) : Nat → TypeId → Option (List Leaf)
  | 0, _ => none
  | d + 1, t => match P.underlying t with
    | some (.int k) => if sizeT P t = some 1 then some [.int k] else none
    | some .bool => if sizeT P t = some 1 then some [.bool] else none
    | some (.struct fs) => if P.stoodInHeld t then none else
        match fs.toList.foldlM (fun (acc : List Leaf) f => if f.name ≠ "_" ∧ f.offset = acc.length then (eqTy P d f.type).map (acc ++ ·) else none) [] with
        | some l => if sizeT P t = some l.length ∧ 0 < l.length then some l else none
        | none => none
    | some (.array n e) => match eqTy P d e with
        | some l => if sizeT P t = some (n * l.length) ∧ 0 < n * l.length then some (List.replicate n l).flatten else none
        | none => none
    | _ => none

def resTy (P : Program) (t : TypeId) : Option (List (Bool × List Leaf) × Bool) :=
  match P.underlying t with
  | some (.tuple ts) => (ts.toList.mapM (ty1 P)).map fun l => (l, false)
  | _ => (ty1 P t).map fun x => ([x], true)

def partsOf (place : Nat → Option (Nat × Nat)) (ps : List (Nat × Operand)) : Option (List (Nat × Nat × Operand)) :=
  ps.mapM fun p => (place p.1).map fun q => (q.1, q.2, p.2)

def flatCall (P : Program) (f : Operand) (ret : List (Bool × List Leaf)) : Bool :=
  match f with
  | .func g => match P.funcs[g]? with
    | some fn => (fn.params.toList.all fun t => match ty1 P t with | some x => flatTy x | none => false) && ret.all flatTy && !ret.isEmpty
    | none => false
  | _ => false

def nilCmp (op : BinOp) (d : TypeDesc) (x y : Operand) : Option AOp :=
  if op = .eql ∨ op = .neq then
    match nilKind d y with
    | some k => some (.eqNil k (op = .neq) x)
    | none => match nilKind d x with
      | some k => some (.eqNil k (op = .neq) y)
      | none => none
  else none

def compOp (P : Program) (o : Oper) : Option AOp :=
  match o.op with
  | .move x => some (.mv x)
  | .assign x => some (.mv x)
  | .pick c a b => some (.pick c a b)
  | .binOp op xT x y _ => match P.underlying xT with
    | some (.int _) => some (.bin op x y)
    | some .bool => if op = .eql then some (.binB false x y) else if op = .neq then some (.binB true x y) else none
    | some (.pointer e) => nilCmp op (.pointer e) x y
    | some (.slice e) => nilCmp op (.slice e) x y
    | some (.func a b c) => nilCmp op (.func a b c) x y
    | some (.struct _) | some (.array _ _) =>
      if (op = .eql ∨ op = .neq) ∧ P.eqGuardType P.depth xT = false then (eqTy P 20 xT).map fun l => .eqAgg l (op = .neq) x y else none
    | _ => none
  | .unOp op _ x => some (.un op x)
  | .convert src dst x => match P.underlying src, P.underlying dst with
    | some (.int _), some (.int k) => some (.conv k x)
    | _, _ => none
  | .build t parts => match P.underlying t with
    | some (.struct fs) => if fs.toList.all (fun f => (sizeT P f.type).isSome) then (zeroL P t).bind fun z => (partsOf (fun i => fs[i]?.bind fun f => (sizeT P f.type).map fun n => (f.offset, n)) parts.toList).map fun ps => .build z ps else none
    | some (.array _ e) => (zeroL P t).bind fun z => (sizeT P e).bind fun n => (partsOf (fun i => some (i * n, n)) parts.toList).map fun ps => .build z ps
    | _ => none
  | .buildSlice t len parts => match P.underlying t with
    | some (.slice e) => (zeroL P e).bind fun z => (sizeT P e).bind fun n => if len * n ≤ 16777216 ∧ 0 < n then
        (partsOf (fun i => some (i * n, n)) parts.toList).map fun ps => .buildSlice n len (replL len z) ps else none
    | _ => none
  | .alloc e => (zeroL P e).map .alloc
  | .box _ x => some (.box x)
  | .load t a => (ty1 P t).map fun x => .load x.1 x.2 a
  | .store t a x => (sizeT P t).map fun n => .store n a x
  | .nilCheck x => some (.nilCheck x)
  | .fieldAddr s x f => match P.underlying s with
    | some (.struct fs) => fs[f]?.bind fun f => (sizeT P f.type).bind fun n => if 0 < n then some (.fieldAddr f.offset x) else none
    | _ => none
  | .field s x f => match P.underlying s with
    | some (.struct fs) => fs[f]?.bind fun f => (sizeT P f.type).bind fun n => if (P.underlying f.type).isSome then some (.field (isAggT P f.type) f.offset n x) else none
    | _ => none
  | .indexAddr t x i => match P.underlying t with
    | some (.slice e) => (sizeT P e).map fun n => .indexAddr n x i
    | some (.array len e) => (sizeT P e).map fun n => .indexArr len n x i
    | _ => none
  | .index t x i => match P.underlying t with
    | some (.array len e) => (sizeT P e).bind fun n => if (P.underlying e).isSome then some (.index (isAggT P e) len n x i) else none
    | some .string => some (.indexStr x i)
    | _ => none
  | .makeSlice t l c => match P.underlying t with
    | some (.slice e) => (zeroL P e).bind fun z => (P.info? e).bind fun i => if 0 < i.size then some (.makeSlice i.size i.bytes z l c) else none
    | _ => none
  | .slice t x lo hi mx => match P.underlying t with
    | some (.slice e) => match mx with
      | none => (sizeT P e).map fun n => .slice n x lo hi
      | some m => match lo, hi, m with
        | none, some (.const (.int _ 0)), .const (.int _ 0) => if (sizeT P e).isSome then some (.slice0 x) else none
        | _, _, _ => none
    | some (.array n e) => if mx.isNone then (sizeT P e).map fun m => .sliceArr n m x lo hi else none
    | some (.pointer a) => match P.underlying a with
      | some (.array n e) => if mx.isNone then (sizeT P e).map fun m => .sliceArr n m x lo hi else none
      | _ => none
    | _ => none
  | .makeFunc (.func g) first cap => some (.makeFunc (.func g) first.toList cap.toList)
  | .extract x i => some (.extract x i)
  | .call c => match c.callee with
    | .builtin .len => match c.argTypes[0]?, c.args.toList with
      | some t, [x] => match P.underlying t with
        | some (.slice _) => some (.len x)
        | some .string => some (.lenS x)
        | some (.array n _) => some (.lenC n)
        | some (.pointer a) => match P.underlying a with
          | some (.array n _) => some (.lenC n)
          | _ => none
        | _ => none
      | _, _ => none
    | .builtin .append => match c.argTypes.toList, c.args.toList with
      | [s, u], [x, y] => match P.underlying s, P.underlying u with
        | some (.slice e), some (.slice _) => (P.info? e).bind fun i => if 0 < i.size ∧ (zeroL P e).isSome then some (.append i.size i.bytes x y) else none
        | _, _ => none
      | _, _ => none
    | .builtin .copy => match c.argTypes.toList, c.args.toList with
      | [s, u], [x, y] => match P.underlying s, P.underlying u with
        | some (.slice e), some (.slice _) => (sizeT P e).bind fun n => if 0 < n then some (.copy n x y) else none
        | _, _ => none
      | _, _ => none
    | .builtin .min => some (.minmax false c.args.toList)
    | .builtin .max => some (.minmax true c.args.toList)
    | .value f => (resTy P o.type).map fun r => .call (flatCall P f r.1) f c.args.toList r.1 r.2
    | _ => none
  | _ => none

def compOper (P : Program) (ops : Array Oper) (o : Oper) : Option AOper :=
  (compOp P o).bind fun a => match o.guard with
    | none => some ⟨o.dst, a, none⟩
    | some (j, want) => ((ops[j]?).bind (·.dst)).map fun d => ⟨o.dst, a, some (d, want)⟩

inductive AKind | pure | load | eff
  deriving DecidableEq

def kindOf : AOp → AKind
  | .load _ _ _ => .load
  | .buildSlice _ _ _ _ | .alloc _ | .box _ | .store _ _ _ | .makeSlice _ _ _ _ _ | .append _ _ _ _ | .copy _ _ _ => .eff
  | .call flat _ _ _ _ => if flat then .pure else .eff
  | _ => .pure

def opndTmps (l : List Operand) : List Nat := l.filterMap fun | .tmp t => some t | _ => none

def readsOf : AOp → List Nat
  | .mv x | .un _ x | .conv _ x | .eqNil _ _ x | .box x | .load _ _ x | .nilCheck x | .fieldAddr _ x | .field _ _ _ x | .extract x _ | .len x | .lenS x | .slice0 x => opndTmps [x]
  | .pick a b c => opndTmps [a, b, c]
  | .bin _ x y | .binB _ x y | .eqAgg _ _ x y | .store _ x y | .indexAddr _ x y | .indexArr _ _ x y | .index _ _ _ x y | .indexStr x y | .makeSlice _ _ _ x y | .append _ _ x y | .copy _ x y => opndTmps [x, y]
  | .build _ ps => opndTmps (ps.map (·.2.2))
  | .buildSlice _ _ _ ps => opndTmps (ps.map (·.2.2))
  | .alloc _ => []
  | .slice _ x lo hi => opndTmps ([x] ++ lo.toList ++ hi.toList)
  | .sliceArr _ _ x lo hi => opndTmps ([x] ++ lo.toList ++ hi.toList)
  | .makeFunc _ a b => opndTmps (a ++ b)
  | .call _ f args _ _ => opndTmps (f :: args)
  | .lenC _ => []
  | .minmax _ xs => opndTmps xs

def readsO (o : AOper) : List Nat :=
  readsOf o.op ++ (match o.guard with | some (g, _) => [g] | none => [])

def isFirst (o : AOper) : Bool :=
  match o.op, o.guard, o.dst with
  | .alloc _, none, some _ => true
  | _, _, _ => false

def isNew (o : AOper) : Bool :=
  match o.op, o.guard, o.dst with
  | .makeSlice _ _ _ _ _, none, some _ => true
  | .box _, none, some _ => true
  | .buildSlice _ _ _ _, none, some _ => true
  | _, _, _ => false

/-- The binding edges lead back, and what lies behind an operation lies behind what an edge of its leads to. -/
def closedE (ops : Array Oper) (bef : Array Nat) : Bool :=
  ops.toList.zipIdx.all fun (o, j) => (o.after.toList.all fun e => !Region.binds .any e || decide (e.on < j)) &&
    (List.range j).all fun i => !((bef.getD j 0).testBit i) || o.after.toList.any fun e => Region.binds .any e && (e.on == i || (decide (i < e.on) && (bef.getD e.on 0).testBit i))

def preO (bef : Array Nat) (i j : Nat) : Bool := decide (i < j) && (bef.getD j 0).testBit i

def ordO (bef : Array Nat) (i j : Nat) : Bool := preO bef i j || preO bef j i

def isEff (o : AOper) : Bool := match kindOf o.op with | .eff => true | _ => false
def isLoad (o : AOper) : Bool := match kindOf o.op with | .load => true | _ => false

/-- May the operations of such a region be taken in the order of the text? What turns the memory is in order; what is read was written before, or is written by none. -/
def drawFit (bef : Array Nat) (l : List AOper) : Bool :=
  l.zipIdx.all fun (a, i) => l.zipIdx.all fun (b, j) => i == j ||
    ((ordO bef i j || !(isEff a && isEff b)) &&
     (match a.dst with | some d => (!((readsO b).contains d) || ordO bef i j) && b.dst != some d | none => true))

/-- What is read, and what may turn it, where their order is open. -/
def drawChk (bef : Array Nat) (l : List AOper) : List (Nat × Nat) :=
  (l.zipIdx.filter fun (a, _) => isLoad a).flatMap fun (_, i) => (l.zipIdx.filter fun (b, j) => isEff b && !(ordO bef i j)).map fun (_, j) => (i, j)

/-- A variable that is made: in its stead, once it is there. -/
def repO (o : AOper) : AOper := if isFirst o then ⟨o.dst, .nilCheck (.tmp (o.dst.getD 0)), none⟩ else o

/-- The variables that are made, and what might turn them though they are not there yet. -/
def firstChk (bef : Array Nat) (l : List AOper) : List (Nat × Nat) :=
  (l.zipIdx.filter fun (a, _) => isFirst a).flatMap fun (_, i) => (l.zipIdx.filter fun (b, j) => isEff b && !isFirst b && !(preO bef i j)).map fun (_, j) => (i, j)

/-- Who reads a variable's address comes behind its making. -/
def firstRd (bef : Array Nat) (l : List AOper) : Bool :=
  l.zipIdx.all fun (a, i) => !isFirst a || l.zipIdx.all fun (b, j) => i == j || match a.dst with
    | some d => !((readsO b).contains d) || preO bef i j
    | none => true

def drawOf (bef : Array Nat) (l : List AOper) : Option ACode :=
  if drawFit bef l then some (.draw [] 0 (l.map fun a => (a, none)) (drawChk bef l))
  else if drawFit bef (l.map repO) && firstRd bef l then
    some (.draw (l.filter isFirst) 0 ((l.map repO).map fun a => (a, none)) (drawChk bef (l.map repO) ++ firstChk bef l))
  else none

def comp (P : Program) : Code → Option ACode
  | .skip => some .skip
  | .region _ ops draw =>
    (ops.toList.mapM (compOper P ops)).bind fun l =>
      if draw then
        if closedE ops (Region.before ops) then
          drawOf (Region.before ops) l
        else none
      else some (.ops l)
  | .seq a b => (comp P a).bind fun a => (comp P b).bind fun b => some (.seq a b)
  | .cond c a b => (comp P a).bind fun a => (comp P b).bind fun b => some (.cond c a b)
  | .block id b => (comp P b).map fun b => .block id b
  | .loop b => (comp P b).map .loop
  | .rangeFunc f params assign body => (comp P assign).bind fun a => (comp P body).bind fun b => some (.rangeFunc f params.toList a b)
  | .exit id => some (.exit id)
  | .ret => some .ret
  | _ => none

/-- Without what is cleared. -/
def erase : ACode → ACode
  | .seq a b => .seq (erase a) (erase b)
  | .cond c a b => .cond c (erase a) (erase b)
  | .block id b => .block id (erase b)
  | .loop b => .loop (erase b)
  | .rangeFunc f ps a b => .rangeFunc f ps (erase a) (erase b)
  | .clear _ c => erase c
  | .post c _ => erase c
  | c => c

def compRes (P : Program) : ResultVar → Option ARes
  | .tmp t => some (.tmp t)
  | .cell a t => (ty1 P t).map fun x => .cell x.1 x.2 a

/-- What is asked of a function and its abstract form. -/
def OkFun (P : Program) (g : FuncId) (a : AFun) : Prop :=
  ∃ fn body, P.funcs[g]? = some fn ∧ fn.body = some body ∧ (fn.name == "runtime.NumGoroutine") = false ∧ fn.ntmps = a.ntmps ∧
    fn.results.toList.mapM (compRes P) = some a.res ∧ comp P body = some (erase a.code)

end Go.Ax
