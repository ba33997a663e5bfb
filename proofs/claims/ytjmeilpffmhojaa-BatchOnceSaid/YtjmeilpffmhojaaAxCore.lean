/- An abstract interpreter of the model's operations over an abstract memory: its definitions. -/
import Derived.RangeFuncLeaves
import Derived.RangeFuncIn
import Derived.KernelRfl
set_option linter.unusedVariables false
namespace Go.Ax
open Go

/-- A value that stands for anything: no operation takes it. -/
def junk : Value := .complex .f32 0 0

inductive AExit
  | normal
  | exit (id : Nat)
  | ret
  deriving DecidableEq

/-- What a cell holds, as far as the type tells. -/
inductive Leaf
  | int (k : IntKind)
  | bool
  | str
  | ptr
  | slice
  | any

inductive AOp
  | mv (x : Operand)
  | pick (c a b : Operand)
  | bin (op : BinOp) (x y : Operand)
  | binB (neg : Bool) (x y : Operand)
  | un (op : UnOp) (x : Operand)
  | conv (k : IntKind) (x : Operand)
  | eqNil (kind : Nat) (neg : Bool) (x : Operand)
  | eqAgg (lfs : List Leaf) (neg : Bool) (x y : Operand)
  | build (zero : List Value) (parts : List (Nat × Nat × Operand))
  | buildSlice (esz len : Nat) (zero : List Value) (parts : List (Nat × Nat × Operand))
  | alloc (zero : List Value)
  | box (x : Operand)
  | load (agg : Bool) (lfs : List Leaf) (a : Operand)
  | store (n : Nat) (a x : Operand)
  | nilCheck (x : Operand)
  | fieldAddr (off : Nat) (x : Operand)
  | field (agg : Bool) (off n : Nat) (x : Operand)
  | indexAddr (esz : Nat) (x i : Operand)
  | indexArr (len esz : Nat) (x i : Operand)
  | index (agg : Bool) (len esz : Nat) (x i : Operand)
  | indexStr (x i : Operand)
  | makeSlice (esz bytes : Nat) (zero : List Value) (l c : Operand)
  | slice (esz : Nat) (x : Operand) (lo hi : Option Operand)
  | slice0 (x : Operand)
  | sliceArr (len esz : Nat) (x : Operand) (lo hi : Option Operand)
  | makeFunc (fn : Fn) (first cap : List Operand)
  | extract (x : Operand) (i : Nat)
  | call (flat : Bool) (f : Operand) (args : List Operand) (ret : List (Bool × List Leaf)) (single : Bool)
  | len (x : Operand)
  | lenS (x : Operand)
  | lenC (n : Nat)
  | append (esz bytes : Nat) (s x : Operand)
  | copy (esz : Nat) (d s : Operand)
  | minmax (mx : Bool) (xs : List Operand)

structure AOper where
  dst : Option Nat
  op : AOp
  guard : Option (Nat × Bool)

inductive ACode
  | skip
  | ops (l : List AOper)
  | draw (first : List AOper) (nres : Nat) (l : List (AOper × Option Nat)) (chk : List (Nat × Nat))
  | seq (a b : ACode)
  | cond (c : Operand) (a b : ACode)
  | block (id : Nat) (b : ACode)
  | loop (b : ACode)
  | rangeFunc (f : Operand) (params : List Nat) (assign body : ACode)
  | exit (id : Nat)
  | ret
  | clear (ts : List Nat) (c : ACode)
  | post (c : ACode) (ts : List Nat)

structure Meta where
  ro : Bool
  ver : Nat

structure ALoop where
  state : LoopState
  pending : Option AExit
  tmps : List Value
  params : List Nat
  assign : ACode
  body : ACode

inductive AObj
  | cells (cs : List Value) (m : Meta)
  | loop (l : ALoop)
  | dead
  | room

abbrev AMem := List AObj
abbrev Res := Option (Value × AMem)
abbrev KT := AExit → List Value → AMem → Res

/-! ### memory -/

def AMem.ld (M : AMem) (b o : Nat) : Option Value :=
  match M[b]? with
  | some (.cells cs _) => cs[o]?
  | _ => none

/-- `vs` laid over `cs` from `o` on. -/
def wrL (cs : List Value) (o : Nat) : List Value → List Value
  | [] => cs
  | v :: vs => wrL (cs.set o v) (o + 1) vs

def AMem.wr (M : AMem) (b o : Nat) (vs : List Value) : Option AMem :=
  match M[b]? with
  | some (.cells cs m) => if m.ro = false ∧ o + vs.length ≤ cs.length then some (M.set b (.cells (wrL cs o vs) { m with ver := m.ver + 1 })) else none
  | _ => none

/-- n cells from o on -/
def AMem.rd (M : AMem) (b o n : Nat) : Option (List Value) :=
  match M[b]? with
  | some (.cells cs _) => if o + n ≤ cs.length then some ((cs.drop o).take n) else none
  | _ => none

def AMem.ver (M : AMem) (b : Nat) : Option Nat :=
  match M[b]? with
  | some (.cells _ m) => some m.ver
  | _ => none

/-! ### values -/

def cellsL : Value → List Value
  | .agg cs => cs.toList
  | v => [v]

/-- may it lie in a cell? -/
def leafV : Value → Bool
  | .agg _ => false
  | .tuple _ => false
  | .complex _ _ _ => false
  | _ => true

/-- no address in it -/
def flatLeaf : Value → Bool
  | .bool _ => true
  | .int _ _ => true
  | .float _ _ => true
  | .string _ => true
  | .pointer none => true
  | .slice none 0 0 => true
  | .nilFunc => true
  | .nilIface => true
  | .map none => true
  | _ => false

def flatV : Value → Bool
  | .agg cs => cs.toList.all flatLeaf
  | v => flatLeaf v

def intOf? (k : IntKind) : Option Value → Option Int
  | some (.int k' n) => if k' = k then some n else none
  | _ => none
def boolOf? : Option Value → Option Bool
  | some (.bool b) => some b
  | _ => none
def strOf? : Option Value → Option ByteArray
  | some (.string s) => some s
  | _ => none
def ptrOf? : Option Value → Option (Option Addr)
  | some (.pointer a) => some a
  | _ => none
def sliceOf? : Option Value → Option (Option Addr × Nat × Nat)
  | some (.slice a n c) => some (a, n, c)
  | _ => none
def anyOf? : Option Value → Option Value
  | some v => if leafV v then some v else none
  | none => none

def ldLeaf (lf : Leaf) (src : Option Value) (K : Value → Res) : Res :=
  match lf with
  | .int k => (intOf? k src).bind fun n => K (.int k n)
  | .bool => (boolOf? src).bind fun b => K (.bool b)
  | .str => (strOf? src).bind fun s => K (.string s)
  | .ptr => (ptrOf? src).bind fun p => K (.pointer p)
  | .slice => (sliceOf? src).bind fun p => K (.slice p.1 p.2.1 p.2.2)
  | .any => (anyOf? src).bind K

def ldLeaves (get : Nat → Option Value) : List Leaf → Nat → (List Value → Res) → Res
  | [], _, K => K []
  | lf :: r, i, K => ldLeaf lf (get i) fun v => ldLeaves get r (i + 1) fun vs => K (v :: vs)

def aggOf? (n : Nat) : Value → Option (List Value)
  | .agg cs => if cs.size = n then some cs.toList else none
  | _ => none

def tupOf? (n : Nat) : Value → Option (List Value)
  | .tuple cs => if cs.size = n then some cs.toList else none
  | _ => none

/-- A value seen as its type says. -/
def view1 (ty : Bool × List Leaf) (v : Value) (K : Value → Res) : Res :=
  if ty.1 then (aggOf? ty.2.length v).bind fun cs => ldLeaves (fun j => cs[j]?) ty.2 0 fun vs => K (.agg vs.toArray)
  else match ty.2 with
    | [lf] => ldLeaf lf (some v) K
    | _ => none

def viewN (cs : List Value) : List (Bool × List Leaf) → Nat → (List Value → Res) → Res
  | [], _, K => K []
  | ty :: r, i, K => (cs[i]?).bind fun u => view1 ty u fun x => viewN cs r (i + 1) fun xs => K (x :: xs)

def view (ret : List (Bool × List Leaf)) (single : Bool) (v : Value) (K : Value → Res) : Res :=
  if single then match ret with
    | [ty] => view1 ty v K
    | _ => none
  else (tupOf? ret.length v).bind fun cs => viewN cs ret 0 fun xs => K (.tuple xs.toArray)

/-! ### operations on numbers -/

def binK (op : BinOp) (x y : Value) (K : Value → Res) : Res :=
  match x, y with
  | .int k a, .int k' b =>
    match op with
    | .shl => if b < 0 then none else K (.int k (k.wrap (a * 2 ^ (min b.toNat k.bits))))
    | .shr => if b < 0 then none else K (.int k (a.fdiv (2 ^ (min b.toNat k.bits))))
    | _ => if k = k' then
        match op with
        | .add => K (.int k (k.wrap (a + b)))
        | .sub => K (.int k (k.wrap (a - b)))
        | .mul => K (.int k (k.wrap (a * b)))
        | .quo => if b = 0 then none else K (.int k (k.wrap (a.tdiv b)))
        | .rem => if b = 0 then none else K (.int k (a.tmod b))
        | .and => K (.int k (k.wrap (BitVec.ofInt k.bits a &&& BitVec.ofInt k.bits b).toNat))
        | .or => K (.int k (k.wrap (BitVec.ofInt k.bits a ||| BitVec.ofInt k.bits b).toNat))
        | .xor => K (.int k (k.wrap (BitVec.ofInt k.bits a ^^^ BitVec.ofInt k.bits b).toNat))
        | .eql => K (.bool (a == b))
        | .neq => K (.bool (a != b))
        | .lss => K (.bool (decide (a < b)))
        | .leq => K (.bool (decide (a ≤ b)))
        | .gtr => K (.bool (decide (a > b)))
        | .geq => K (.bool (decide (a ≥ b)))
        | _ => none
      else none
  | _, _ => none

def unK (op : UnOp) (x : Value) (K : Value → Res) : Res :=
  match op, x with
  | .neg, .int k n => K (.int k (k.wrap (0 - n)))
  | .not, .bool b => K (.bool !b)
  | _, _ => none

def leafEq : Leaf → Value → Value → Option Bool
  | .int _, .int k a, .int k' b => if k = k' then some (a == b) else none
  | .bool, .bool a, .bool b => some (a == b)
  | _, _, _ => none

def leavesEq : List Leaf → List Value → List Value → Option Bool
  | [], [], [] => some true
  | [lf], [x], [y] => leafEq lf x y
  | lf :: lfs, x :: xs, y :: ys => (leafEq lf x y).bind fun b => (leavesEq lfs xs ys).bind fun c => some (b && c)
  | _, _, _ => none

/-- Cells as numbers of one kind. -/
def intsOf (k : IntKind) : List Value → Option (List Int)
  | [] => some []
  | .int k' a :: l => if k' = k then (intsOf k l).map (a :: ·) else none
  | _ :: _ => none

theorem intsOf_some {k : IntKind} : ∀ {l : List Value} {l' : List Int}, intsOf k l = some l' → l = l'.map (Value.int k)
  | [], l', h => by cases h; rfl
  | v :: l, l', h => by
    cases v with
    | int k' a =>
      simp only [intsOf] at h
      split at h
      · rename_i hk
        obtain ⟨r, h1, rfl⟩ := Option.map_eq_some_iff.1 h
        subst hk
        rw [List.map_cons, ← intsOf_some h1]
      · cases h
    | _ => simp [intsOf] at h

/-- A cell of some: where all are numbers of one kind, their number is. -/
def idxK (cs : List Value) (j : Nat) (K : Value → Res) : Res :=
  match cs with
  | .int k a :: l => match intsOf k l with
    | some l' => ((a :: l')[j]?).bind fun x => K (.int k x)
    | none => (cs[j]?).bind K
  | _ => (cs[j]?).bind K

theorem idxK_eq (cs : List Value) (j : Nat) (K : Value → Res) : idxK cs j K = (cs[j]?).bind K := by
  unfold idxK
  split
  · rename_i k a l
    split
    · rename_i l' h
      rw [intsOf_some h, ← List.map_cons, List.getElem?_map]
      cases (a :: l')[j]? <;> rfl
    · rfl
  · rfl

def isNil (kind : Nat) (v : Value) : Option Bool :=
  match kind with
  | 0 => match v with
    | .pointer a => some a.isNone
    | _ => none
  | 1 => match v with
    | .slice a _ _ => some a.isNone
    | _ => none
  | 2 => match v with
    | .nilFunc => some true
    | .func _ _ _ => some false
    | _ => none
  | _ => none

def fillL (cells : List Value) : List (Nat × Nat × Value) → Option (List Value)
  | [] => some cells
  | (off, n, v) :: r => if (cellsL v).length = n ∧ off + n ≤ cells.length ∧ (cellsL v).all leafV = true then fillL (wrL cells off (cellsL v)) r else none

def replL (n : Nat) (zero : List Value) : List Value :=
  match zero with
  | [z] => List.replicate n z
  | zs => (List.replicate n zs).flatten

def mmG (mx : Bool) (k : IntKind) (a : Int) : List Value → Option Value
  | [] => some (.int k a)
  | v :: r => match v with
    | .int k' b => if k = k' then mmG mx k (if mx then (if b > a then b else a) else (if b < a then b else a)) r else none
    | _ => none

def mm (mx : Bool) : List Value → Option Value
  | .int k a :: r => mmG mx k a r
  | _ => none

/-! ### execution -/

/-- What execution leans on: calls, rounds of a range over a function, loops. -/
structure Rec where
  call : FuncId → List Value → AMem → Res
  round : Nat → List Value → AMem → Res
  loop : ACode → KT → List Value → AMem → Res

def ev (t : List Value) : Operand → Value
  | .tmp i => t.getD i undef
  | .const v => if flatV v then v else junk
  | .global _ => junk
  | .func f => .func (.func f) #[] #[]

/-- A row's own cells, from its slice. -/
def rowOf (M : AMem) (esz : Nat) : Value → Option (List Value)
  | .slice none n _ => if n = 0 then some [] else none
  | .slice (some p) n _ => if n = 0 then some [] else M.rd p.block p.off (n * esz)
  | _ => none

def lenV : Value → Option Nat
  | .slice _ n _ => some n
  | _ => none

def boundOf (t : List Value) (d : Nat) : Option Operand → Option Int
  | none => some d
  | some x => match ev t x with
    | .int _ n => some n
    | _ => none

/-- A new block: what its value is, of its number, and what it holds. -/
def newK (op : AOp) (t : List Value) (K : (Nat → Value) → AObj → Res) : Res :=
  match op with
  | .buildSlice esz len zero parts => (fillL zero (parts.map fun p => (p.1, p.2.1, ev t p.2.2))).bind fun cs =>
      K (fun a => .slice (some ⟨a, 0, none⟩) len esz) (.cells cs ⟨false, 0⟩)
  | .alloc zero => K (fun a => .pointer (some ⟨a, 0, none⟩)) (.cells zero ⟨false, 0⟩)
  | .box x => if (cellsL (ev t x)).all leafV then K (fun a => .pointer (some ⟨a, 0, none⟩)) (.cells (cellsL (ev t x)) ⟨false, 0⟩) else none
  | .makeSlice esz bytes zero l c => match ev t l, ev t c with
    | .int _ l, .int _ c => if 0 ≤ l ∧ l ≤ c ∧ c ≤ 140737488355328 ∧ c * bytes ≤ 140737488355328 then
        K (fun a => .slice (some ⟨a, 0, none⟩) l.toNat esz) (.cells (replL l.toNat zero) ⟨false, 0⟩) else none
    | _, _ => none
  | _ => none

/-- What an append comes to. -/
def appendK (esz bytes : Nat) (p : Option Addr) (n c m : Nat) (new : List Value) (M : AMem) (K : Option Addr → Nat → Nat → AMem → Res) : Res :=
  if m = 0 then K p n c M
  else if n + m ≤ (281474976710656 / (bytes + 1) - 1024) / 2 then
    match p with
    | none => if n = 0 then K (some ⟨M.length, 0, none⟩) m esz (M ++ [.cells new ⟨false, 0⟩]) else none
    | some p => match p.spot with
      | some _ => if n = 0 then K (some ⟨M.length, 0, none⟩) m esz (M ++ [.cells new ⟨false, 0⟩]) else none
      | none => match M[p.block]? with
        | some (.cells cs mt) => if mt.ro = false ∧ c = esz ∧ p.off + n * esz ≤ cs.length then
            K (some ⟨M.length, 0, none⟩) (n + m) esz (M.set p.block .dead ++ [.cells ((cs.drop p.off).take (n * esz) ++ new) ⟨false, 0⟩]) else none
        | _ => none
  else none

theorem fits_of {n m b : Nat} (hm : m ≠ 0) (h : n + m ≤ (281474976710656 / (b + 1) - 1024) / 2) : (2 * (n + m) + 1024) * (b + 1) ≤ 281474976710656 := by
  have h1 : 2 * (n + m) + 1024 ≤ 281474976710656 / (b + 1) := by omega
  exact Nat.le_trans (Nat.mul_le_mul_right _ h1) (Nat.div_mul_le_self _ _)

/-- What a copy comes to. -/
def copyK (esz : Nat) (p : Option Addr) (n m : Nat) (row : List Value) (M : AMem) (K : Nat → AMem → Res) : Res :=
  if Nat.min m n = 0 then K 0 M
  else match p with
    | some p => (M.wr p.block p.off (row.take (Nat.min m n * esz))).bind fun M => K (Nat.min m n) M
    | none => none

def opK (rec : Rec) (op : AOp) (t : List Value) (M : AMem) (K : Value → AMem → Res) : Res :=
  match op with
  | .mv x => K (ev t x) M
  | .pick c a b => match ev t c with
    | .bool q => match ev t a, ev t b with
      | .bool x, .bool y => K (.bool (bif q then x else y)) M
      | x, y => K (if q then x else y) M
    | _ => none
  | .bin o x y => binK o (ev t x) (ev t y) fun v => K v M
  | .binB neg x y => match ev t x, ev t y with
    | .bool a, .bool b => K (.bool (if neg then !(a == b) else a == b)) M
    | _, _ => none
  | .un o x => unK o (ev t x) fun v => K v M
  | .conv k x => match ev t x with
    | .int _ n => K (.int k (k.wrap n)) M
    | _ => none
  | .eqNil kind neg x => (isNil kind (ev t x)).bind fun b => K (.bool (if neg then !b else b)) M
  | .eqAgg lfs neg x y => match ev t x, ev t y with
    | .agg a, .agg b => (leavesEq lfs a.toList b.toList).bind fun q => K (.bool (if neg then !q else q)) M
    | _, _ => none
  | .build zero parts => (fillL zero (parts.map fun p => (p.1, p.2.1, ev t p.2.2))).bind fun cs => K (.agg cs.toArray) M
  | .buildSlice esz len zero parts => newK (.buildSlice esz len zero parts) t fun mk blk => K (mk M.length) (M ++ [blk])
  | .alloc zero => newK (.alloc zero) t fun mk blk => K (mk M.length) (M ++ [blk])
  | .box x => newK (.box x) t fun mk blk => K (mk M.length) (M ++ [blk])
  | .load agg lfs a => match ev t a with
    | .pointer (some p) =>
      if agg then ldLeaves (fun j => M.ld p.block (p.off + j)) lfs 0 fun vs => K (.agg vs.toArray) M
      else match lfs with
        | [lf] => ldLeaf lf (M.ld p.block p.off) fun v => K v M
        | _ => none
    | _ => none
  | .store n a x => match ev t a with
    | .pointer (some p) =>
      if (cellsL (ev t x)).length = n ∧ (cellsL (ev t x)).all leafV then
        (M.wr p.block p.off (cellsL (ev t x))).bind fun M => K undef M
      else none
    | _ => none
  | .nilCheck x => match ev t x with
    | .pointer (some p) => K (.pointer (some p)) M
    | .pointer none => none
    | .func fn a b => match fn with
      | .func g => K (.func (.func g) a b) M
      | .yield l => K (.func (.yield l) a b) M
      | _ => none
    | _ => none
  | .fieldAddr off x => match ev t x with
    | .pointer (some p) => K (.pointer (some ⟨p.block, p.off + off, none⟩)) M
    | _ => none
  | .field agg off n x => match ev t x with
    | .agg cs => if agg then (if off + n ≤ cs.toList.length then K (.agg ((cs.toList.drop off).take n).toArray) M else none)
      else (cs.toList[off]?).bind fun v => K v M
    | _ => none
  | .indexAddr esz x i => match ev t x, ev t i with
    | .slice (some p) n _, .int _ i => if 0 ≤ i ∧ i < n then K (.pointer (some ⟨p.block, p.off + i.toNat * esz, none⟩)) M else none
    | .slice none _ _, _ => none
    | _, _ => none
  | .indexArr len esz x i => match ev t x, ev t i with
    | .pointer (some p), .int _ i => if 0 ≤ i ∧ i < len then K (.pointer (some ⟨p.block, p.off + i.toNat * esz, none⟩)) M else none
    | _, _ => none
  | .index agg len esz x i => match ev t x, ev t i with
    | .agg cs, .int _ i => if 0 ≤ i ∧ i < len then
        (if agg then (if i.toNat * esz + esz ≤ cs.toList.length then K (.agg ((cs.toList.drop (i.toNat * esz)).take esz).toArray) M else none)
        else idxK cs.toList (i.toNat * esz) fun v => K v M) else none
    | _, _ => none
  | .indexStr x i => match ev t x, ev t i with
    | .string s, .int _ i => if 0 ≤ i then (s.data.toList[i.toNat]?).bind fun b => K (.int .u8 b.toNat) M else none
    | _, _ => none
  | .makeSlice esz bytes zero l c => newK (.makeSlice esz bytes zero l c) t fun mk blk => K (mk M.length) (M ++ [blk])
  | .slice esz x lo hi => match ev t x with
    | .slice p n c => (boundOf t 0 lo).bind fun lo => (boundOf t n hi).bind fun hi =>
        if 0 ≤ lo ∧ lo ≤ hi ∧ hi ≤ n then
          K (.slice (p.map fun p => ⟨p.block, p.off + lo.toNat * esz, p.spot⟩) (hi - lo).toNat (if c = esz then esz else 0)) M
        else none
    | _ => none
  | .slice0 x => match ev t x with
    | .slice (some _) _ _ => K (.slice (some ⟨0, 0, some 0⟩) 0 0) M
    | .slice none _ _ => K (.slice none 0 0) M
    | _ => none
  | .sliceArr len esz x lo hi => match ev t x with
    | .pointer (some p) => (boundOf t 0 lo).bind fun lo => (boundOf t len hi).bind fun hi =>
        if 0 ≤ lo ∧ lo ≤ hi ∧ hi ≤ len then
          K (.slice (some ⟨p.block, p.off + lo.toNat * esz, none⟩) (hi - lo).toNat 0) M
        else none
    | _ => none
  | .makeFunc fn first cap => K (.func fn (first.map (ev t)).toArray (cap.map (ev t)).toArray) M
  | .extract x i => match ev t x with
    | .tuple vs => (vs.toList[i]?).bind fun v => K v M
    | _ => none
  | .call flat f args ret single => match ev t f with
    | .func fn first cap => match fn with
      | .func g =>
        if flat then
          if (args.map (ev t)).all flatV && first.toList.isEmpty && cap.toList.isEmpty then
            (rec.call g (args.map (ev t)) []).bind fun r => view ret single r.1 fun v => K v M
          else none
        else (rec.call g (first.toList ++ args.map (ev t) ++ cap.toList) M).bind fun r => view ret single r.1 fun v => K v r.2
      | .yield l => if flat then none else (rec.round l (args.map (ev t)) M).bind fun r => view ret single r.1 fun v => K v r.2
      | _ => none
    | _ => none
  | .len x => (lenV (ev t x)).bind fun n => K (.int .i64 n) M
  | .lenS x => match ev t x with
    | .string s => K (.int .i64 s.size) M
    | _ => none
  | .lenC n => K (.int .i64 n) M
  | .append esz bytes s x => match ev t s with
    | .slice p n c => (lenV (ev t x)).bind fun m => (rowOf M esz (ev t x)).bind fun new => appendK esz bytes p n c m new M fun p n c M => K (.slice p n c) M
    | _ => none
  | .copy esz d s => match ev t d with
    | .slice p n _ => (lenV (ev t s)).bind fun m => (rowOf M esz (ev t s)).bind fun row => copyK esz p n m row M fun k M => K (.int .i64 k) M
    | _ => none
  | .minmax mx xs => (mm mx (xs.map (ev t))).bind fun v => K v M

def setT (t : List Value) : Option Nat → Value → List Value
  | none, _ => t
  | some d, v => t.set d v

/-- A list with one of its cells set, laid out anew, and what comes behind. -/
def setF {R : Type} : List Value → Nat → Value → (List Value → R) → R
  | [], _, _, K => K []
  | _ :: r, 0, v, K => K (v :: r)
  | x :: r, n + 1, v, K => setF r n v fun r' => K (x :: r')

theorem setF_eq {R : Type} : ∀ (t : List Value) (d : Nat) (v : Value) (K : List Value → R), setF t d v K = K (t.set d v)
  | [], d, v, K => rfl
  | x :: r, 0, v, K => rfl
  | x :: r, n + 1, v, K => by simp only [setF, setF_eq, List.set_cons_succ]

def setTF {R : Type} (t : List Value) (o : Option Nat) (v : Value) (K : List Value → R) : R :=
  match o with
  | none => K t
  | some d => setF t d v K

theorem setTF_eq {R : Type} (t : List Value) (o : Option Nat) (v : Value) (K : List Value → R) : setTF t o v K = K (setT t o v) := by
  cases o with
  | none => rfl
  | some d => exact setF_eq t d v K

/-- One operation, its guard first. -/
def operK (rec : Rec) (o : AOper) (t : List Value) (M : AMem) (K : List Value → AMem → Res) : Res :=
  match o.guard with
  | none => opK rec o.op t M fun v M => setTF t o.dst v fun t => K t M
  | some (g, want) => match t.getD g undef with
    | .bool b =>
      if b = true then
        setF t g (.bool true) fun t =>
        (if want then opK rec o.op t M fun v M => setTF t o.dst v fun t => K t M
         else setTF t o.dst undef fun t => K t M)
      else
        setF t g (.bool false) fun t =>
        (if want then setTF t o.dst undef fun t => K t M
         else opK rec o.op t M fun v M => setTF t o.dst v fun t => K t M)
    | .tuple vs => if vs.toList.isEmpty then setTF t o.dst undef fun t => K t M else none
    | _ => none

def opsK (rec : Rec) : List AOper → List Value → AMem → (List Value → AMem → Res) → Res
  | [], t, M, K => K t M
  | o :: r, t, M, K => operK rec o t M fun t M => opsK rec r t M K

/-- The block that a load reads. -/
def blockOf (o : AOper) (t : List Value) : Option Nat :=
  match o.op with
  | .load _ _ a => match ev t a with
    | .pointer (some p) => some p.block
    | _ => none
  | .nilCheck a => match ev t a with
    | .pointer (some p) => some p.block
    | _ => none
  | _ => none

def chkOk (pairs : List (Nat × Nat)) (lds : List (Nat × Nat)) (efs : List (Nat × AMem × AMem)) : Bool :=
  pairs.all fun p => match lds.lookup p.1, efs.lookup p.2 with
    | some a, some mm => decide (AMem.ver mm.1 a = AMem.ver mm.2 a)
    | _, _ => true

/-- A new block, filled in where it was kept room. -/
def fillK (o : AOper) (a : Nat) (t : List Value) (M : AMem) (K : List Value → AMem → Res) : Res :=
  match o.guard with
  | none => newK o.op t fun mk blk => setTF t o.dst (mk a) fun t => K t (M.set a blk)
  | some _ => none

/-- A region whose order is open, in the order of the text; what is read is noted, and what is done. -/
def drawK (rec : Rec) (pairs : List (Nat × Nat)) (base : Nat) : List (AOper × Option Nat) → Nat → List (Nat × Nat) → List (Nat × AMem × AMem) → List Value → AMem → (List Value → AMem → Res) → Res
  | [], _, lds, efs, t, M, K => if chkOk pairs lds efs then K t M else none
  | (o, some j) :: r, i, lds, efs, t, M, K => fillK o (base + j) t M fun t' M' => drawK rec pairs base r (i + 1) lds efs t' M' K
  | (o, none) :: r, i, lds, efs, t, M, K => operK rec o t M fun t' M' =>
      drawK rec pairs base r (i + 1)
        (if pairs.any (fun p => p.1 == i) then (match blockOf o t with | some a => (i, a) :: lds | none => lds) else lds)
        (if pairs.any (fun p => p.2 == i) then (i, M, M') :: efs else efs) t' M' K

def addRooms : Nat → AMem → AMem
  | 0, M => M
  | n + 1, M => M ++ List.replicate (n + 1) .room

theorem addRooms_eq (n : Nat) (M : AMem) : addRooms n M = M ++ List.replicate n .room := by
  cases n with
  | zero => simp [addRooms]
  | succ n => rfl

def clearT (t : List Value) : List Nat → List Value
  | [] => t
  | i :: r => clearT (t.set i junk) r

def clearF {R : Type} (t : List Value) : List Nat → (List Value → R) → R
  | [], K => K t
  | i :: r, K => setF t i junk fun t => clearF t r K

theorem clearF_eq {R : Type} : ∀ (l : List Nat) (t : List Value) (K : List Value → R), clearF t l K = K (clearT t l)
  | [], t, K => rfl
  | i :: r, t, K => by simp only [clearF, clearT, setF_eq]; exact clearF_eq r _ K

def seqK (next : List Value → AMem → Res) (K : KT) : KT
  | .normal, t, M => next t M
  | e, t, M => K e t M

def blockK (id : Nat) (K : KT) : KT
  | .exit i, t, M => if i = id then K .normal t M else K (.exit i) t M
  | e, t, M => K e t M

def postK (ts : List Nat) (K : KT) : KT
  | .normal, t, M => clearF t ts fun t => K .normal t M
  | e, t, M => K e t M

def code (rec : Rec) : ACode → KT → List Value → AMem → Res
  | .skip, K, t, M => K .normal t M
  | .ops l, K, t, M => opsK rec l t M fun t M => K .normal t M
  | .draw first nres l chk, K, t, M => opsK rec first t M fun t M => drawK rec chk M.length l 0 [] [] t (addRooms nres M) fun t M => K .normal t M
  | .seq a b, K, t, M => code rec a (seqK (code rec b K) K) t M
  | .cond c a b, K, t, M => match ev t c with
    | .bool q => if q = true then code rec a K t M else code rec b K t M
    | _ => none
  | .block id b, K, t, M => code rec b (blockK id K) t M
  | .loop b, K, t, M => rec.loop b K t M
  | .rangeFunc f params assign body, K, t, M => match ev t f with
    | .func fn first cap => match fn with
      | .func g =>
        (rec.call g (first.toList ++ [.func (.yield M.length) #[] #[]] ++ cap.toList) (M ++ [.loop ⟨.ready, none, t, params, assign, body⟩])).bind fun r =>
          match r.2[M.length]? with
          | some (.loop l) => if l.state = .busy then none else
              match l.pending with
              | none => K .normal t (r.2.set M.length .dead)
              | some e => K e t (r.2.set M.length .dead)
          | _ => none
      | _ => none
    | _ => none
  | .exit id, K, t, M => K (.exit id) t M
  | .ret, K, t, M => K .ret t M
  | .clear ts c, K, t, M => clearF t ts fun t => code rec c K t M
  | .post c ts, K, t, M => code rec c (postK ts K) t M

inductive ARes
  | tmp (t : Nat)
  | cell (agg : Bool) (lfs : List Leaf) (a : Nat)

structure AFun where
  ntmps : Nat
  res : List ARes
  code : ACode

def resK (t : List Value) (M : AMem) : List ARes → (List Value → Res) → Res
  | [], K => K []
  | .tmp i :: r, K => resK t M r fun vs => K (t.getD i undef :: vs)
  | .cell agg lfs a :: r, K => match t.getD a undef with
    | .pointer (some p) =>
      if agg then ldLeaves (fun j => M.ld p.block (p.off + j)) lfs 0 fun cs => resK t M r fun vs => K (.agg cs.toArray :: vs)
      else match lfs with
        | [lf] => ldLeaf lf (M.ld p.block p.off) fun v => resK t M r fun vs => K (v :: vs)
        | _ => none
    | _ => none

def tupV : List Value → Value
  | [v] => v
  | vs => .tuple vs.toArray

/-- How a body ends. -/
def retK (res : List ARes) : KT
  | .normal, t, M => resK t M res fun vs => some (tupV vs, M)
  | .ret, t, M => resK t M res fun vs => some (tupV vs, M)
  | .exit _, _, _ => none

def enterF (rec : Rec) (f : AFun) (args : List Value) (M : AMem) : Res :=
  if args.length ≤ f.ntmps then
    code rec f.code (retK f.res) (args ++ List.replicate (f.ntmps - args.length) undef) M
  else none

/-- How a round ends. -/
def roundK (l : Nat) : KT := fun e _ M =>
  match M[l]? with
  | some (.loop r) => match e with
    | .normal => some (.bool true, M.set l (.loop { r with state := .ready, pending := none }))
    | e => some (.bool false, M.set l (.loop { r with state := .done, pending := some e }))
  | _ => none

def setParams (t : List Value) : List (Nat × Value) → List Value
  | [] => t
  | (i, v) :: r => setParams (t.set i v) r

def roundF (rec : Rec) (l : Nat) (args : List Value) (M : AMem) : Res :=
  match M[l]? with
  | some (.loop r) =>
    if args.length = r.params.length ∧ r.state = .ready then
      code rec r.assign (fun e t M => match e with
        | .normal => match M[l]? with
          | some (.loop r') => if r'.state = .ready then code rec r.body (roundK l) t (M.set l (.loop { r' with state := .busy })) else none
          | _ => none
        | _ => none) (setParams r.tmps (r.params.zip args)) M
    else none
  | _ => none

structure Env where
  fn : FuncId → Option AFun
  ext : FuncId → Option (List Value → AMem → Res)

def loopK (rec : Rec) (b : ACode) (K : KT) : KT
  | .normal, t, M => rec.loop b K t M
  | e, t, M => K e t M

def run (E : Env) : Nat → Rec
  | 0 => ⟨fun _ _ _ => none, fun _ _ _ => none, fun _ _ _ _ => none⟩
  | n + 1 => {
      call := fun f args M => match E.ext f with
        | some h => h args M
        | none => match E.fn f with
          | some a => enterF (run E n) a args M
          | none => none
      round := fun l args M => roundF (run E n) l args M
      loop := fun b K t M => code (run E n) b (loopK (run E n) b K) t M }

end Go.Ax
