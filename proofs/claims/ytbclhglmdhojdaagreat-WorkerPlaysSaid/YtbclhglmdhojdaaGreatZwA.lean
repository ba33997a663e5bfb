/- Part 1 of the proof: AxA. -/
import Derived.Below
import Derived.KernelRfl
import Derived.Laws.Append
import Derived.Laws.AppendOwn
import Derived.Laws.Cells
import Derived.Laws.CopyRow
import Derived.Laws.MakeOwn
import Derived.Laws.StructEq
import Derived.Laws.World
import Derived.OpenShut
import Derived.OrdersIn
import Derived.ProofKit
import Derived.RangeFuncCalls
import Derived.RangeFuncIn
import Derived.RangeFuncLeaves
import Derived.RangeFuncRecord
import Derived.Shelf.Slices.CompactI
import Derived.Shelf.Slices.In.SortNone
import Derived.Shelf.Sort.Plain
import Derived.SizedLaws
import Derived.Test.YtbclhglmdhojdaaGreatProg
import Derived.Test.YtbclhglmdhojdaaGreatRows
set_option linter.unusedVariables false
set_option linter.unusedSimpArgs false
set_option maxRecDepth 100000
namespace Go.Ax
open Go
theorem bsi.{u, v} {α : Type u} {β : Type v} {o : Option α} {f : α → Option β} {b : β} : o.bind f = some b ↔ ∃ a, o = some a ∧ f a = some b := Option.bind_eq_some_iff
theorem gee.{u} {α : Type u} {l : List α} {i : Nat} (h : i < l.length) : l[i]? = some l[i] := List.getElem?_eq_getElem h
theorem fmc.{u} {α : Type u} {p : α → Prop} {a : α} {l : List α} : (∀ x, x ∈ a :: l → p x) ↔ p a ∧ ∀ x, x ∈ l → p x := List.forall_mem_cons
theorem ges.{u} {α : Type u} {l : List α} {i : Nat} {a : α} : l[i]? = some a ↔ ∃ h : i < l.length, l[i] = a := List.getElem?_eq_some_iff
theorem msi.{u, v} {α : Type u} {β : Type v} {x : Option α} {f : α → β} {b : β} : x.map f = some b ↔ ∃ a, x = some a ∧ f a = b := Option.map_eq_some_iff
def junk : Value := .complex .f32 0 0
inductive AExit
  | normal
  | exit (id : Nat)
  | ret
  deriving DecidableEq
inductive Leaf
  | int (k : IntKind)
  | bool
  | str
  | ptr
  | slice
  | any
inductive MKind
  | make
  | look (ok : Bool)
  | upd
  | del
inductive AOp
  | mv (x : Operand)
  | pick (c a b : Operand)
  | bin (op : BinOp) (x y : Operand)
  | binB (neg : Bool) (x y : Operand)
  | un (op : UnOp) (x : Operand)
  | conv (k : IntKind) (x : Operand)
  | eqNil (kind : Nat) (neg : Bool) (x : Operand)
  | eqAgg (lfs : List Leaf) (neg : Bool) (x y : Operand)
  | build (zero : List Value) (parts : List (Nat × Nat × Operand))
  | buildSlice (esz len : Nat) (zero : List Value) (parts : List (Nat × Nat × Operand))
  | alloc (zero : List Value)
  | box (x : Operand)
  | load (agg : Bool) (lfs : List Leaf) (a : Operand)
  | store (n : Nat) (a x : Operand)
  | nilCheck (x : Operand)
  | fieldAddr (off : Nat) (x : Operand)
  | field (agg : Bool) (off n : Nat) (x : Operand)
  | indexAddr (esz : Nat) (x i : Operand)
  | indexArr (len esz : Nat) (x i : Operand)
  | index (agg : Bool) (len esz : Nat) (x i : Operand)
  | indexStr (x i : Operand)
  | makeSlice (esz bytes : Nat) (zero : List Value) (l c : Operand)
  | slice (esz : Nat) (x : Operand) (lo hi : Option Operand)
  | slice0 (x : Operand)
  | sliceArr (len esz : Nat) (x : Operand) (lo hi : Option Operand)
  | makeFunc (fn : Fn) (first cap : List Operand)
  | extract (x : Operand) (i : Nat)
  | call (flat : Bool) (f : Operand) (args : List Operand) (ret : List (Bool × List Leaf)) (single : Bool)
  | len (x : Operand)
  | lenS (x : Operand)
  | lenC (n : Nat)
  | append (esz bytes : Nat) (s x : Operand)
  | copy (esz : Nat) (d s : Operand)
  | minmax (mx : Bool) (xs : List Operand)
  | made (esz bytes : Nat) (l c d : Operand)
  | map (kd : MKind) (k kv : IntKind) (m i v : Operand)
structure AOper where
  dst : Option Nat
  op : AOp
  guard : Option (Nat × Bool)
inductive ACode
  | skip
  | ops (l : List AOper)
  | draw (first : List AOper) (nres : Nat) (l : List (AOper × Option Nat)) (chk : List (Nat × Nat))
  | seq (a b : ACode)
  | cond (c : Operand) (a b : ACode)
  | block (id : Nat) (b : ACode)
  | loop (b : ACode)
  | rangeFunc (f : Operand) (params : List Nat) (assign body : ACode)
  | exit (id : Nat)
  | ret
  | clear (ts : List Nat) (c : ACode)
  | post (c : ACode) (ts : List Nat)
  | scope (l : Nat) (b r : ACode)
structure Meta where
  ro : Bool
  ver : Nat
structure ALoop where
  state : LoopState
  pending : Option AExit
  tmps : List Value
  params : List Nat
  assign : ACode
  body : ACode
inductive AObj
  | cells (cs : List Value) (m : Meta)
  | loop (l : ALoop)
  | dead
  | room
  | map (k kv : IntKind) (es : List (Int × Int))
abbrev AMem := List AObj
abbrev Res := Option (Value × AMem)
abbrev KT := AExit → List Value → AMem → Res
def AMem.ld (M : AMem) (b o : Nat) : Option Value :=
  match M[b]? with
  | some (.cells cs _) => cs[o]?
  | _ => none
def wrL (cs : List Value) (o : Nat) : List Value → List Value
  | [] => cs
  | v :: vs => wrL (cs.set o v) (o + 1) vs
def AMem.wr (M : AMem) (b o : Nat) (vs : List Value) : Option AMem :=
  match M[b]? with
  | some (.cells cs m) => if m.ro = false ∧ o + vs.length ≤ cs.length then some (M.set b (.cells (wrL cs o vs) { m with ver := m.ver + 1 })) else none
  | _ => none
def AMem.mp (M : AMem) (k kv : IntKind) (r : Option Nat) : Option (List (Int × Int)) :=
  match r with
  | some r => match M[r]? with
    | some (.map k' kv' es) => if k' = k ∧ kv' = kv then some es else none
    | _ => none
  | none => none
def AMem.mput (M : AMem) (k kv : IntKind) (r : Option Nat) (es : List (Int × Int)) : AMem :=
  match r with
  | some r => M.set r (.map k kv es)
  | none => M
def mset (n v : Int) : List (Int × Int) → List (Int × Int)
  | [] => [(n, v)]
  | e :: r => if n = e.1 then (e.1, v) :: r else e :: mset n v r
def mdel (n : Int) : List (Int × Int) → List (Int × Int)
  | [] => []
  | e :: r => if n = e.1 then r else e :: mdel n r
def mget (n : Int) : List (Int × Int) → Option Int
  | [] => none
  | e :: r => if n = e.1 then some e.2 else mget n r
def AMem.rd (M : AMem) (b o n : Nat) : Option (List Value) :=
  match M[b]? with
  | some (.cells cs _) => if o + n ≤ cs.length then some ((cs.drop o).take n) else none
  | _ => none
def AMem.ver (M : AMem) (b : Nat) : Option Nat :=
  match M[b]? with
  | some (.cells _ m) => some m.ver
  | _ => none
def cellsL : Value → List Value
  | .agg cs => cs.toList
  | v => [v]
def leafV : Value → Bool
  | .agg _ => false
  | .tuple _ => false
  | .complex _ _ _ => false
  | _ => true
def flatLeaf : Value → Bool
  | .bool _ => true
  | .int _ _ => true
  | .float _ _ => true
  | .string _ => true
  | .pointer none => true
  | .slice none 0 0 => true
  | .nilFunc => true
  | .nilIface => true
  | .map none => true
  | _ => false
def flatV : Value → Bool
  | .agg cs => cs.toList.all flatLeaf
  | v => flatLeaf v
def intOf? (k : IntKind) : Option Value → Option Int
  | some (.int k' n) => if k' = k then some n else none
  | _ => none
def boolOf? : Option Value → Option Bool
  | some (.bool b) => some b
  | _ => none
def strOf? : Option Value → Option ByteArray
  | some (.string s) => some s
  | _ => none
def ptrOf? : Option Value → Option (Option Addr)
  | some (.pointer a) => some a
  | _ => none
def sliceOf? : Option Value → Option (Option Addr × Nat × Nat)
  | some (.slice a n c) => some (a, n, c)
  | _ => none
def anyOf? : Option Value → Option Value
  | some v => if leafV v then some v else none
  | none => none
def mapOf? : Option Value → Option (Option Nat)
  | some (.map r) => some r
  | _ => none
def ldLeaf (lf : Leaf) (src : Option Value) (K : Value → Res) : Res :=
  match lf with
  | .int k => (intOf? k src).bind fun n => K (.int k n)
  | .bool => (boolOf? src).bind fun b => K (.bool b)
  | .str => (strOf? src).bind fun s => K (.string s)
  | .ptr => (ptrOf? src).bind fun p => K (.pointer p)
  | .slice => (sliceOf? src).bind fun p => K (.slice p.1 p.2.1 p.2.2)
  | .any => (anyOf? src).bind K
def ldLeaves (get : Nat → Option Value) : List Leaf → Nat → (List Value → Res) → Res
  | [], _, K => K []
  | lf :: r, i, K => ldLeaf lf (get i) fun v => ldLeaves get r (i + 1) fun vs => K (v :: vs)
def aggOf? (n : Nat) : Value → Option (List Value)
  | .agg cs => if cs.size = n then some cs.toList else none
  | _ => none
def tupOf? (n : Nat) : Value → Option (List Value)
  | .tuple cs => if cs.size = n then some cs.toList else none
  | _ => none
def view1 (ty : Bool × List Leaf) (v : Value) (K : Value → Res) : Res :=
  if ty.1 then (aggOf? ty.2.length v).bind fun cs => ldLeaves (fun j => cs[j]?) ty.2 0 fun vs => K (.agg vs.toArray)
  else match ty.2 with
    | [lf] => ldLeaf lf (some v) K
    | _ => none
def viewN (cs : List Value) : List (Bool × List Leaf) → Nat → (List Value → Res) → Res
  | [], _, K => K []
  | ty :: r, i, K => (cs[i]?).bind fun u => view1 ty u fun x => viewN cs r (i + 1) fun xs => K (x :: xs)
def view (ret : List (Bool × List Leaf)) (single : Bool) (v : Value) (K : Value → Res) : Res :=
  if single then match ret with
    | [ty] => view1 ty v K
    | _ => none
  else (tupOf? ret.length v).bind fun cs => viewN cs ret 0 fun xs => K (.tuple xs.toArray)
def binK (op : BinOp) (x y : Value) (K : Value → Res) : Res :=
  match x, y with
  | .int k a, .int k' b =>
    match op with
    | .shl => if b < 0 then none else K (.int k (k.wrap (a * 2 ^ (min b.toNat k.bits))))
    | .shr => if b < 0 then none else K (.int k (a.fdiv (2 ^ (min b.toNat k.bits))))
    | _ => if k = k' then
        match op with
        | .add => K (.int k (k.wrap (a + b)))
        | .sub => K (.int k (k.wrap (a - b)))
        | .mul => K (.int k (k.wrap (a * b)))
        | .quo => if b = 0 then none else K (.int k (k.wrap (a.tdiv b)))
        | .rem => if b = 0 then none else K (.int k (a.tmod b))
        | .and => K (.int k (k.wrap (BitVec.ofInt k.bits a &&& BitVec.ofInt k.bits b).toNat))
        | .or => K (.int k (k.wrap (BitVec.ofInt k.bits a ||| BitVec.ofInt k.bits b).toNat))
        | .xor => K (.int k (k.wrap (BitVec.ofInt k.bits a ^^^ BitVec.ofInt k.bits b).toNat))
        | .eql => K (.bool (a == b))
        | .neq => K (.bool (a != b))
        | .lss => K (.bool (decide (a < b)))
        | .leq => K (.bool (decide (a ≤ b)))
        | .gtr => K (.bool (decide (a > b)))
        | .geq => K (.bool (decide (a ≥ b)))
        | _ => none
      else none
  | _, _ => none
def unK (op : UnOp) (x : Value) (K : Value → Res) : Res :=
  match op, x with
  | .neg, .int k n => K (.int k (k.wrap (0 - n)))
  | .not, .bool b => K (.bool !b)
  | _, _ => none
def leafEq : Leaf → Value → Value → Option Bool
  | .int _, .int k a, .int k' b => if k = k' then some (a == b) else none
  | .bool, .bool a, .bool b => some (a == b)
  | _, _, _ => none
def leavesEq : List Leaf → List Value → List Value → Option Bool
  | [], [], [] => some true
  | [lf], [x], [y] => leafEq lf x y
  | lf :: lfs, x :: xs, y :: ys => (leafEq lf x y).bind fun b => (leavesEq lfs xs ys).bind fun c => some (b && c)
  | _, _, _ => none
def intsOf (k : IntKind) : List Value → Option (List Int)
  | [] => some []
  | .int k' a :: l => if k' = k then (intsOf k l).map (a :: ·) else none
  | _ :: _ => none
theorem intsOf_some {k : IntKind} : ∀ {l : List Value} {l' : List Int}, intsOf k l = some l' → l = l'.map (Value.int k)
  | [], l', h => by cases h; rfl
  | v :: l, l', h => by
    cases v with
    | int k' a =>
      simp only [intsOf] at h
      split at h
      · rename_i hk
        obtain ⟨r, h1, rfl⟩ := msi.1 h
        subst hk
        rw [List.map_cons, ← intsOf_some h1]
      · cases h
    | _ => simp [intsOf] at h
def idxK (cs : List Value) (j : Nat) (K : Value → Res) : Res :=
  match cs with
  | .int k a :: l => match intsOf k l with
    | some l' => ((a :: l')[j]?).bind fun x => K (.int k x)
    | none => (cs[j]?).bind K
  | _ => (cs[j]?).bind K
theorem idxK_eq (cs : List Value) (j : Nat) (K : Value → Res) : idxK cs j K = (cs[j]?).bind K := by
  unfold idxK
  split
  · rename_i k a l
    split
    · rename_i l' h
      rw [intsOf_some h, ← List.map_cons, List.getElem?_map]
      cases (a :: l')[j]? <;> rfl
    · rfl
  · rfl
def isNil (kind : Nat) (v : Value) : Option Bool :=
  match kind with
  | 0 => match v with
    | .pointer a => some a.isNone
    | _ => none
  | 1 => match v with
    | .slice a _ _ => some a.isNone
    | _ => none
  | 2 => match v with
    | .nilFunc => some true
    | .func _ _ _ => some false
    | _ => none
  | 3 => match v with
    | .map a => some a.isNone
    | _ => none
  | _ => none
def fillL (cells : List Value) : List (Nat × Nat × Value) → Option (List Value)
  | [] => some cells
  | (off, n, v) :: r => if (cellsL v).length = n ∧ off + n ≤ cells.length ∧ (cellsL v).all leafV = true then fillL (wrL cells off (cellsL v)) r else none
def replL (n : Nat) (zero : List Value) : List Value :=
  match zero with
  | [z] => List.replicate n z
  | zs => (List.replicate n zs).flatten
def mmG (mx : Bool) (k : IntKind) (a : Int) : List Value → Option Value
  | [] => some (.int k a)
  | v :: r => match v with
    | .int k' b => if k = k' then mmG mx k (if mx then (if b > a then b else a) else (if b < a then b else a)) r else none
    | _ => none
def mm (mx : Bool) : List Value → Option Value
  | .int k a :: r => mmG mx k a r
  | _ => none
structure Rec where
  call : FuncId → List Value → AMem → Res
  round : Nat → List Value → AMem → Res
  loop : ACode → KT → List Value → AMem → Res
def ev (t : List Value) : Operand → Value
  | .tmp i => t.getD i undef
  | .const v => if flatV v then v else junk
  | .global _ => junk
  | .func f => .func (.func f) #[] #[]
def rowOf (M : AMem) (esz : Nat) : Value → Option (List Value)
  | .slice none n _ => if n = 0 then some [] else none
  | .slice (some p) n _ => if n = 0 then some [] else M.rd p.block p.off (n * esz)
  | _ => none
def lenV : Value → Option Nat
  | .slice _ n _ => some n
  | _ => none
def boundOf (t : List Value) (d : Nat) : Option Operand → Option Int
  | none => some d
  | some x => match ev t x with
    | .int _ n => some n
    | _ => none
def newK (op : AOp) (t : List Value) (K : (Nat → Value) → AObj → Res) : Res :=
  match op with
  | .buildSlice esz len zero parts => (fillL zero (parts.map fun p => (p.1, p.2.1, ev t p.2.2))).bind fun cs =>
      K (fun a => .slice (some ⟨a, 0, none⟩) len esz) (.cells cs ⟨false, 0⟩)
  | .alloc zero => K (fun a => .pointer (some ⟨a, 0, none⟩)) (.cells zero ⟨false, 0⟩)
  | .box x => if (cellsL (ev t x)).all leafV then K (fun a => .pointer (some ⟨a, 0, none⟩)) (.cells (cellsL (ev t x)) ⟨false, 0⟩) else none
  | .makeSlice esz bytes zero l c => match ev t l, ev t c with
    | .int _ l, .int _ c => if 0 ≤ l ∧ l ≤ c ∧ c ≤ 140737488355328 ∧ c * bytes ≤ 140737488355328 then
        K (fun a => .slice (some ⟨a, 0, none⟩) l.toNat esz) (.cells (replL l.toNat zero) ⟨false, 0⟩) else none
    | _, _ => none
  | _ => none
def appendK (esz bytes : Nat) (p : Option Addr) (n c m : Nat) (new : List Value) (M : AMem) (K : Option Addr → Nat → Nat → AMem → Res) : Res :=
  if m = 0 then K p n c M
  else if n + m ≤ (281474976710656 / (bytes + 1) - 1024) / 2 then
    match p with
    | none => if n = 0 then K (some ⟨M.length, 0, none⟩) m esz (M ++ [.cells new ⟨false, 0⟩]) else none
    | some p => match p.spot with
      | some _ => if n = 0 then K (some ⟨M.length, 0, none⟩) m esz (M ++ [.cells new ⟨false, 0⟩]) else none
      | none => match M[p.block]? with
        | some (.cells cs mt) => if mt.ro = false ∧ c = esz ∧ p.off + n * esz ≤ cs.length then
            K (some ⟨M.length, 0, none⟩) (n + m) esz (M.set p.block .dead ++ [.cells ((cs.drop p.off).take (n * esz) ++ new) ⟨false, 0⟩]) else none
        | _ => none
  else none
theorem fits_of {n m b : Nat} (hm : m ≠ 0) (h : n + m ≤ (281474976710656 / (b + 1) - 1024) / 2) : (2 * (n + m) + 1024) * (b + 1) ≤ 281474976710656 := by
  have h1 : 2 * (n + m) + 1024 ≤ 281474976710656 / (b + 1) := by omega
  exact Nat.le_trans (Nat.mul_le_mul_right _ h1) (Nat.div_mul_le_self _ _)
def copyK (esz : Nat) (p : Option Addr) (n m : Nat) (row : List Value) (M : AMem) (K : Nat → AMem → Res) : Res :=
  if Nat.min m n = 0 then K 0 M
  else match p with
    | some p => (M.wr p.block p.off (row.take (Nat.min m n * esz))).bind fun M => K (Nat.min m n) M
    | none => none
def mapK (kd : MKind) (k kv : IntKind) (m i v : Value) (M : AMem) (K : Value → AMem → Res) : Res :=
  match kd with
  | .make => K (.map (some M.length)) (M ++ [.map k kv []])
  | .look ok => (mapOf? (some m)).bind fun r => (intOf? k (some i)).bind fun n => (M.mp k kv r).bind fun es =>
      if ok then K (.tuple #[.int kv ((mget n es).getD 0), .bool (mget n es).isSome]) M else K (.int kv ((mget n es).getD 0)) M
  | .upd => (mapOf? (some m)).bind fun r => (intOf? k (some i)).bind fun n => (intOf? kv (some v)).bind fun x => (M.mp k kv r).bind fun es => K undef (M.mput k kv r (mset n x es))
  | .del => (mapOf? (some m)).bind fun r => (intOf? k (some i)).bind fun n => (M.mp k kv r).bind fun es => K undef (M.mput k kv r (mdel n es))
def opK (rec : Rec) (op : AOp) (t : List Value) (M : AMem) (K : Value → AMem → Res) : Res :=
  match op with
  | .mv x => K (ev t x) M
  | .pick c a b => match ev t c with
    | .bool q => match ev t a, ev t b with
      | .bool x, .bool y => K (.bool (bif q then x else y)) M
      | x, y => K (if q then x else y) M
    | _ => none
  | .bin o x y => binK o (ev t x) (ev t y) fun v => K v M
  | .binB neg x y => match ev t x, ev t y with
    | .bool a, .bool b => K (.bool (if neg then !(a == b) else a == b)) M
    | _, _ => none
  | .un o x => unK o (ev t x) fun v => K v M
  | .conv k x => match ev t x with
    | .int _ n => K (.int k (k.wrap n)) M
    | _ => none
  | .eqNil kind neg x => (isNil kind (ev t x)).bind fun b => K (.bool (if neg then !b else b)) M
  | .eqAgg lfs neg x y => match ev t x, ev t y with
    | .agg a, .agg b => (leavesEq lfs a.toList b.toList).bind fun q => K (.bool (if neg then !q else q)) M
    | _, _ => none
  | .build zero parts => (fillL zero (parts.map fun p => (p.1, p.2.1, ev t p.2.2))).bind fun cs => K (.agg cs.toArray) M
  | .buildSlice esz len zero parts => newK (.buildSlice esz len zero parts) t fun mk blk => K (mk M.length) (M ++ [blk])
  | .alloc zero => newK (.alloc zero) t fun mk blk => K (mk M.length) (M ++ [blk])
  | .box x => newK (.box x) t fun mk blk => K (mk M.length) (M ++ [blk])
  | .load agg lfs a => match ev t a with
    | .pointer (some p) =>
      if agg then ldLeaves (fun j => M.ld p.block (p.off + j)) lfs 0 fun vs => K (.agg vs.toArray) M
      else match lfs with
        | [lf] => ldLeaf lf (M.ld p.block p.off) fun v => K v M
        | _ => none
    | _ => none
  | .store n a x => match ev t a with
    | .pointer (some p) =>
      if (cellsL (ev t x)).length = n ∧ (cellsL (ev t x)).all leafV then
        (M.wr p.block p.off (cellsL (ev t x))).bind fun M => K undef M
      else none
    | _ => none
  | .nilCheck x => match ev t x with
    | .pointer (some p) => K (.pointer (some p)) M
    | .pointer none => none
    | .func fn a b => match fn with
      | .func g => K (.func (.func g) a b) M
      | .yield l => K (.func (.yield l) a b) M
      | _ => none
    | _ => none
  | .fieldAddr off x => match ev t x with
    | .pointer (some p) => K (.pointer (some ⟨p.block, p.off + off, none⟩)) M
    | _ => none
  | .field agg off n x => match ev t x with
    | .agg cs => if agg then (if off + n ≤ cs.toList.length then K (.agg ((cs.toList.drop off).take n).toArray) M else none)
      else (cs.toList[off]?).bind fun v => K v M
    | _ => none
  | .indexAddr esz x i => match ev t x, ev t i with
    | .slice (some p) n _, .int _ i => if 0 ≤ i ∧ i < n then K (.pointer (some ⟨p.block, p.off + i.toNat * esz, none⟩)) M else none
    | .slice none _ _, _ => none
    | _, _ => none
  | .indexArr len esz x i => match ev t x, ev t i with
    | .pointer (some p), .int _ i => if 0 ≤ i ∧ i < len then K (.pointer (some ⟨p.block, p.off + i.toNat * esz, none⟩)) M else none
    | _, _ => none
  | .index agg len esz x i => match ev t x, ev t i with
    | .agg cs, .int _ i => if 0 ≤ i ∧ i < len then
        (if agg then (if i.toNat * esz + esz ≤ cs.toList.length then K (.agg ((cs.toList.drop (i.toNat * esz)).take esz).toArray) M else none)
        else idxK cs.toList (i.toNat * esz) fun v => K v M) else none
    | _, _ => none
  | .indexStr x i => match ev t x, ev t i with
    | .string s, .int _ i => if 0 ≤ i then (s.data.toList[i.toNat]?).bind fun b => K (.int .u8 b.toNat) M else none
    | _, _ => none
  | .makeSlice esz bytes zero l c => newK (.makeSlice esz bytes zero l c) t fun mk blk => K (mk M.length) (M ++ [blk])
  | .slice esz x lo hi => match ev t x with
    | .slice p n c => (boundOf t 0 lo).bind fun lo => (boundOf t n hi).bind fun hi =>
        if 0 ≤ lo ∧ lo ≤ hi ∧ hi ≤ n then
          K (.slice (p.map fun p => ⟨p.block, p.off + lo.toNat * esz, p.spot⟩) (hi - lo).toNat (if c = esz then esz else 0)) M
        else none
    | _ => none
  | .slice0 x => match ev t x with
    | .slice (some _) _ _ => K (.slice (some ⟨0, 0, some 0⟩) 0 0) M
    | .slice none _ _ => K (.slice none 0 0) M
    | _ => none
  | .sliceArr len esz x lo hi => match ev t x with
    | .pointer (some p) => (boundOf t 0 lo).bind fun lo => (boundOf t len hi).bind fun hi =>
        if 0 ≤ lo ∧ lo ≤ hi ∧ hi ≤ len then
          K (.slice (some ⟨p.block, p.off + lo.toNat * esz, none⟩) (hi - lo).toNat 0) M
        else none
    | _ => none
  | .makeFunc fn first cap => K (.func fn (first.map (ev t)).toArray (cap.map (ev t)).toArray) M
  | .extract x i => match ev t x with
    | .tuple vs => (vs.toList[i]?).bind fun v => K v M
    | _ => none
  | .call flat f args ret single => match ev t f with
    | .func fn first cap => match fn with
      | .func g =>
        if flat then
          if (args.map (ev t)).all flatV && first.toList.isEmpty && cap.toList.isEmpty then
            (rec.call g (args.map (ev t)) []).bind fun r => view ret single r.1 fun v => K v M
          else none
        else (rec.call g (first.toList ++ args.map (ev t) ++ cap.toList) M).bind fun r => view ret single r.1 fun v => K v r.2
      | .yield l => if flat then none else (rec.round l (args.map (ev t)) M).bind fun r => view ret single r.1 fun v => K v r.2
      | _ => none
    | _ => none
  | .len x => (lenV (ev t x)).bind fun n => K (.int .i64 n) M
  | .lenS x => match ev t x with
    | .string s => K (.int .i64 s.size) M
    | _ => none
  | .lenC n => K (.int .i64 n) M
  | .append esz bytes s x => match ev t s with
    | .slice p n c => (lenV (ev t x)).bind fun m => (rowOf M esz (ev t x)).bind fun new => appendK esz bytes p n c m new M fun p n c M => K (.slice p n c) M
    | _ => none
  | .copy esz d s => match ev t d with
    | .slice p n _ => (lenV (ev t s)).bind fun m => (rowOf M esz (ev t s)).bind fun row => copyK esz p n m row M fun k M => K (.int .i64 k) M
    | _ => none
  | .minmax mx xs => (mm mx (xs.map (ev t))).bind fun v => K v M
  | .made esz bytes l c d => match ev t l, ev t c, ev t d with
    | .int _ l, .int _ c, .slice (some p) n cc => if (0 ≤ l ∧ l ≤ c ∧ c ≤ 140737488355328 ∧ c * bytes ≤ 140737488355328) ∧ l.toNat = n ∧ cc = esz then K (.slice (some p) n cc) M else none
    | _, _, _ => none
  | .map kd k kv m i v => mapK kd k kv (ev t m) (ev t i) (ev t v) M K
def setT (t : List Value) : Option Nat → Value → List Value
  | none, _ => t
  | some d, v => t.set d v
def setF {R : Type} : List Value → Nat → Value → (List Value → R) → R
  | [], _, _, K => K []
  | _ :: r, 0, v, K => K (v :: r)
  | x :: r, n + 1, v, K => setF r n v fun r' => K (x :: r')
theorem setF_eq {R : Type} : ∀ (t : List Value) (d : Nat) (v : Value) (K : List Value → R), setF t d v K = K (t.set d v)
  | [], d, v, K => rfl
  | x :: r, 0, v, K => rfl
  | x :: r, n + 1, v, K => by simp only [setF, setF_eq, List.set_cons_succ]
def setTF {R : Type} (t : List Value) (o : Option Nat) (v : Value) (K : List Value → R) : R :=
  match o with
  | none => K t
  | some d => setF t d v K
theorem setTF_eq {R : Type} (t : List Value) (o : Option Nat) (v : Value) (K : List Value → R) : setTF t o v K = K (setT t o v) := by
  cases o with
  | none => rfl
  | some d => exact setF_eq t d v K
def operK (rec : Rec) (o : AOper) (t : List Value) (M : AMem) (K : List Value → AMem → Res) : Res :=
  match o.guard with
  | none => opK rec o.op t M fun v M => setTF t o.dst v fun t => K t M
  | some (g, want) => match t.getD g undef with
    | .bool b =>
      if b = true then
        setF t g (.bool true) fun t =>
        (if want then opK rec o.op t M fun v M => setTF t o.dst v fun t => K t M
         else setTF t o.dst undef fun t => K t M)
      else
        setF t g (.bool false) fun t =>
        (if want then setTF t o.dst undef fun t => K t M
         else opK rec o.op t M fun v M => setTF t o.dst v fun t => K t M)
    | .tuple vs => if vs.toList.isEmpty then setTF t o.dst undef fun t => K t M else none
    | _ => none
def opsK (rec : Rec) : List AOper → List Value → AMem → (List Value → AMem → Res) → Res
  | [], t, M, K => K t M
  | o :: r, t, M, K => operK rec o t M fun t M => opsK rec r t M K
def blockOf (o : AOper) (t : List Value) : Option Nat :=
  match o.op with
  | .load _ _ a => match ev t a with
    | .pointer (some p) => some p.block
    | _ => none
  | .nilCheck a => match ev t a with
    | .pointer (some p) => some p.block
    | _ => none
  | .made _ _ _ _ d => match ev t d with
    | .slice (some p) _ _ => some p.block
    | _ => none
  | _ => none
def chkOk (pairs : List (Nat × Nat)) (lds : List (Nat × Nat)) (efs : List (Nat × AMem × AMem)) : Bool :=
  pairs.all fun p => match lds.lookup p.1, efs.lookup p.2 with
    | some a, some mm => decide (AMem.ver mm.1 a = AMem.ver mm.2 a)
    | _, _ => true
def fillK (o : AOper) (a : Nat) (t : List Value) (M : AMem) (K : List Value → AMem → Res) : Res :=
  match o.guard with
  | none => newK o.op t fun mk blk => setTF t o.dst (mk a) fun t => K t (M.set a blk)
  | some _ => none
def drawK (rec : Rec) (pairs : List (Nat × Nat)) (base : Nat) : List (AOper × Option Nat) → Nat → List (Nat × Nat) → List (Nat × AMem × AMem) → List Value → AMem → (List Value → AMem → Res) → Res
  | [], _, lds, efs, t, M, K => if chkOk pairs lds efs then K t M else none
  | (o, some j) :: r, i, lds, efs, t, M, K => fillK o (base + j) t M fun t' M' => drawK rec pairs base r (i + 1) lds efs t' M' K
  | (o, none) :: r, i, lds, efs, t, M, K => operK rec o t M fun t' M' =>
      drawK rec pairs base r (i + 1)
        (if pairs.any (fun p => p.1 == i) then (match blockOf o t with | some a => (i, a) :: lds | none => lds) else lds)
        (if pairs.any (fun p => p.2 == i) then (i, M, M') :: efs else efs) t' M' K
def addRooms : Nat → AMem → AMem
  | 0, M => M
  | n + 1, M => M ++ List.replicate (n + 1) .room
theorem addRooms_eq (n : Nat) (M : AMem) : addRooms n M = M ++ List.replicate n .room := by
  cases n with
  | zero => simp [addRooms]
  | succ n => rfl
def clearT (t : List Value) : List Nat → List Value
  | [] => t
  | i :: r => clearT (t.set i junk) r
def clearF {R : Type} (t : List Value) : List Nat → (List Value → R) → R
  | [], K => K t
  | i :: r, K => setF t i junk fun t => clearF t r K
theorem clearF_eq {R : Type} : ∀ (l : List Nat) (t : List Value) (K : List Value → R), clearF t l K = K (clearT t l)
  | [], t, K => rfl
  | i :: r, t, K => by simp only [clearF, clearT, setF_eq]; exact clearF_eq r _ K
def seqK (next : List Value → AMem → Res) (K : KT) : KT
  | .normal, t, M => next t M
  | e, t, M => K e t M
def blockK (id : Nat) (K : KT) : KT
  | .exit i, t, M => if i = id then K .normal t M else K (.exit i) t M
  | e, t, M => K e t M
def postK (ts : List Nat) (K : KT) : KT
  | .normal, t, M => clearF t ts fun t => K .normal t M
  | e, t, M => K e t M
def gotoB : Nat := 1000000000
def scopeK (l : Nat) (next : List Value → AMem → Res) (K : KT) : KT
  | .exit i, t, M => if i = gotoB + l then next t M else K (.exit i) t M
  | e, t, M => K e t M
def noK (l : Nat) (K : KT) : KT
  | .exit i, t, M => if i = gotoB + l then none else K (.exit i) t M
  | e, t, M => K e t M
def code (rec : Rec) : ACode → KT → List Value → AMem → Res
  | .skip, K, t, M => K .normal t M
  | .ops l, K, t, M => opsK rec l t M fun t M => K .normal t M
  | .draw first nres l chk, K, t, M => opsK rec first t M fun t M => drawK rec chk M.length l 0 [] [] t (addRooms nres M) fun t M => K .normal t M
  | .seq a b, K, t, M => code rec a (seqK (code rec b K) K) t M
  | .cond c a b, K, t, M => match ev t c with
    | .bool q => if q = true then code rec a K t M else code rec b K t M
    | _ => none
  | .block id b, K, t, M => code rec b (blockK id K) t M
  | .loop b, K, t, M => rec.loop b K t M
  | .rangeFunc f params assign body, K, t, M => match ev t f with
    | .func fn first cap => match fn with
      | .func g =>
        (rec.call g (first.toList ++ [.func (.yield M.length) #[] #[]] ++ cap.toList) (M ++ [.loop ⟨.ready, none, t, params, assign, body⟩])).bind fun r =>
          match r.2[M.length]? with
          | some (.loop l) => if l.state = .busy then none else
              match l.pending with
              | none => K .normal t (r.2.set M.length .dead)
              | some e => K e t (r.2.set M.length .dead)
          | _ => none
      | _ => none
    | _ => none
  | .exit id, K, t, M => K (.exit id) t M
  | .ret, K, t, M => K .ret t M
  | .clear ts c, K, t, M => clearF t ts fun t => code rec c K t M
  | .post c ts, K, t, M => code rec c (postK ts K) t M
  | .scope l b r, K, t, M => code rec b (scopeK l (code rec r (noK l K)) K) t M
inductive ARes
  | tmp (t : Nat)
  | cell (agg : Bool) (lfs : List Leaf) (a : Nat)
structure AFun where
  ntmps : Nat
  res : List ARes
  code : ACode
def resK (t : List Value) (M : AMem) : List ARes → (List Value → Res) → Res
  | [], K => K []
  | .tmp i :: r, K => resK t M r fun vs => K (t.getD i undef :: vs)
  | .cell agg lfs a :: r, K => match t.getD a undef with
    | .pointer (some p) =>
      if agg then ldLeaves (fun j => M.ld p.block (p.off + j)) lfs 0 fun cs => resK t M r fun vs => K (.agg cs.toArray :: vs)
      else match lfs with
        | [lf] => ldLeaf lf (M.ld p.block p.off) fun v => resK t M r fun vs => K (v :: vs)
        | _ => none
    | _ => none
def tupV : List Value → Value
  | [v] => v
  | vs => .tuple vs.toArray
def retK (res : List ARes) : KT
  | .normal, t, M => resK t M res fun vs => some (tupV vs, M)
  | .ret, t, M => resK t M res fun vs => some (tupV vs, M)
  | .exit _, _, _ => none
def enterF (rec : Rec) (f : AFun) (args : List Value) (M : AMem) : Res :=
  if args.length ≤ f.ntmps then
    code rec f.code (retK f.res) (args ++ List.replicate (f.ntmps - args.length) undef) M
  else none
def roundK (l : Nat) : KT := fun e _ M =>
  match M[l]? with
  | some (.loop r) => match e with
    | .normal => some (.bool true, M.set l (.loop { r with state := .ready, pending := none }))
    | e => some (.bool false, M.set l (.loop { r with state := .done, pending := some e }))
  | _ => none
def setParams (t : List Value) : List (Nat × Value) → List Value
  | [] => t
  | (i, v) :: r => setParams (t.set i v) r
def roundF (rec : Rec) (l : Nat) (args : List Value) (M : AMem) : Res :=
  match M[l]? with
  | some (.loop r) =>
    if args.length = r.params.length ∧ r.state = .ready then
      code rec r.assign (fun e t M => match e with
        | .normal => match M[l]? with
          | some (.loop r') => if r'.state = .ready then code rec r.body (roundK l) t (M.set l (.loop { r' with state := .busy })) else none
          | _ => none
        | _ => none) (setParams r.tmps (r.params.zip args)) M
    else none
  | _ => none
structure Env where
  fn : FuncId → Option AFun
  ext : FuncId → Option (List Value → AMem → Res)
def loopK (rec : Rec) (b : ACode) (K : KT) : KT
  | .normal, t, M => rec.loop b K t M
  | e, t, M => K e t M
def run (E : Env) : Nat → Rec
  | 0 => ⟨fun _ _ _ => none, fun _ _ _ => none, fun _ _ _ _ => none⟩
  | n + 1 => {
      call := fun f args M => match E.ext f with
        | some h => h args M
        | none => match E.fn f with
          | some a => enterF (run E n) a args M
          | none => none
      round := fun l args M => roundF (run E n) l args M
      loop := fun b K t M => code (run E n) b (loopK (run E n) b K) t M }
def sizeT (P : Program) (t : TypeId) : Option Nat := (P.info? t).map (·.size)
def leaves (P : Program) : Nat → TypeId → Option (List Leaf)
  | 0, _ => none
  | d + 1, t => match P.underlying t with
    | some (.int k) => some [.int k]
    | some .bool => some [.bool]
    | some .string => some [.str]
    | some (.pointer _) => some [.ptr]
    | some (.slice _) => some [.slice]
    | some (.func _ _ _) => some [.any]
    | some (.map _ _) => some [.any]
    | some (.struct fs) => (fs.toList.mapM fun f => leaves P d f.type).map List.flatten
    | some (.array n e) => (leaves P d e).map fun l => (List.replicate n l).flatten
    | _ => none
def isAggT (P : Program) (t : TypeId) : Bool :=
  match P.underlying t with
  | some (.struct _) => true
  | some (.array _ _) => true
  | _ => false
def ty1 (P : Program) (t : TypeId) : Option (Bool × List Leaf) :=
  (leaves P 20 t).bind fun l => if sizeT P t = some l.length then some (isAggT P t, l) else none
def flatLf : Leaf → Bool
  | .int _ => true
  | .bool => true
  | .str => true
  | _ => false
def flatTy (x : Bool × List Leaf) : Bool := x.2.all flatLf
def zeroL (P : Program) (t : TypeId) : Option (List Value) :=
  (P.info? t).bind fun i => i.zero.bind fun z => if (cellsL z).length = i.size ∧ (cellsL z).all flatLeaf then some (cellsL z) else none
def nilKind (d : TypeDesc) (x : Operand) : Option Nat :=
  match d, x with
  | .pointer _, .const (.pointer none) => some 0
  | .slice _, .const (.slice none _ _) => some 1
  | .func _ _ _, .const .nilFunc => some 2
  | .map _ _, .const (.map none) => some 3
  | _, _ => none
def eqTy (P : Program) : Nat → TypeId → Option (List Leaf)
  | 0, _ => none
  | d + 1, t => match P.underlying t with
    | some (.int k) => if sizeT P t = some 1 then some [.int k] else none
    | some .bool => if sizeT P t = some 1 then some [.bool] else none
    | some (.struct fs) => if P.stoodInHeld t then none else
        match fs.toList.foldlM (fun (acc : List Leaf) f => if f.name ≠ "_" ∧ f.offset = acc.length then (eqTy P d f.type).map (acc ++ ·) else none) [] with
        | some l => if sizeT P t = some l.length ∧ 0 < l.length then some l else none
        | none => none
    | some (.array n e) => match eqTy P d e with
        | some l => if sizeT P t = some (n * l.length) ∧ 0 < n * l.length then some (List.replicate n l).flatten else none
        | none => none
    | _ => none
def resTy (P : Program) (t : TypeId) : Option (List (Bool × List Leaf) × Bool) :=
  match P.underlying t with
  | some (.tuple ts) => (ts.toList.mapM (ty1 P)).map fun l => (l, false)
  | _ => (ty1 P t).map fun x => ([x], true)
def partsOf (place : Nat → Option (Nat × Nat)) (ps : List (Nat × Operand)) : Option (List (Nat × Nat × Operand)) :=
  ps.mapM fun p => (place p.1).map fun q => (q.1, q.2, p.2)
def flatCall (P : Program) (f : Operand) (ret : List (Bool × List Leaf)) : Bool :=
  match f with
  | .func g => match P.funcs[g]? with
    | some fn => (fn.params.toList.all fun t => match ty1 P t with | some x => flatTy x | none => false) && ret.all flatTy && !ret.isEmpty
    | none => false
  | _ => false
def nilCmp (op : BinOp) (d : TypeDesc) (x y : Operand) : Option AOp :=
  if op = .eql ∨ op = .neq then
    match nilKind d y with
    | some k => some (.eqNil k (op = .neq) x)
    | none => match nilKind d x with
      | some k => some (.eqNil k (op = .neq) y)
      | none => none
  else none
def mapTy (P : Program) (t : TypeId) : Option (IntKind × IntKind) :=
  match P.underlying t with
  | some (.map kt et) => match P.underlying kt, (P.info? et).bind (·.zero) with
    | some (.int k), some (.int kv 0) => some (k, kv)
    | _, _ => none
  | _ => none
def compOp (P : Program) (o : Oper) : Option AOp :=
  match o.op with
  | .move x => some (.mv x)
  | .assign x => some (.mv x)
  | .pick c a b => some (.pick c a b)
  | .binOp op xT x y _ => match P.underlying xT with
    | some (.int _) => some (.bin op x y)
    | some .bool => if op = .eql then some (.binB false x y) else if op = .neq then some (.binB true x y) else none
    | some (.pointer e) => nilCmp op (.pointer e) x y
    | some (.slice e) => nilCmp op (.slice e) x y
    | some (.func a b c) => nilCmp op (.func a b c) x y
    | some (.map a b) => nilCmp op (.map a b) x y
    | some (.struct _) | some (.array _ _) =>
      if (op = .eql ∨ op = .neq) ∧ P.eqGuardType P.depth xT = false then (eqTy P 20 xT).map fun l => .eqAgg l (op = .neq) x y else none
    | _ => none
  | .unOp op _ x => some (.un op x)
  | .convert src dst x => match P.underlying src, P.underlying dst with
    | some (.int _), some (.int k) => some (.conv k x)
    | _, _ => none
  | .build t parts => match P.underlying t with
    | some (.struct fs) => if fs.toList.all (fun f => (sizeT P f.type).isSome) then (zeroL P t).bind fun z => (partsOf (fun i => fs[i]?.bind fun f => (sizeT P f.type).map fun n => (f.offset, n)) parts.toList).map fun ps => .build z ps else none
    | some (.array _ e) => (zeroL P t).bind fun z => (sizeT P e).bind fun n => (partsOf (fun i => some (i * n, n)) parts.toList).map fun ps => .build z ps
    | _ => none
  | .buildSlice t len parts => match P.underlying t with
    | some (.slice e) => (zeroL P e).bind fun z => (sizeT P e).bind fun n => if len * n ≤ 16777216 ∧ 0 < n then
        (partsOf (fun i => some (i * n, n)) parts.toList).map fun ps => .buildSlice n len (replL len z) ps else none
    | _ => none
  | .alloc e => (zeroL P e).map .alloc
  | .box _ x => some (.box x)
  | .load t a => (ty1 P t).map fun x => .load x.1 x.2 a
  | .store t a x => (sizeT P t).map fun n => .store n a x
  | .nilCheck x => some (.nilCheck x)
  | .fieldAddr s x f => match P.underlying s with
    | some (.struct fs) => fs[f]?.bind fun f => (sizeT P f.type).bind fun n => if 0 < n then some (.fieldAddr f.offset x) else none
    | _ => none
  | .field s x f => match P.underlying s with
    | some (.struct fs) => fs[f]?.bind fun f => (sizeT P f.type).bind fun n => if (P.underlying f.type).isSome then some (.field (isAggT P f.type) f.offset n x) else none
    | _ => none
  | .indexAddr t x i => match P.underlying t with
    | some (.slice e) => (sizeT P e).map fun n => .indexAddr n x i
    | some (.array len e) => (sizeT P e).map fun n => .indexArr len n x i
    | _ => none
  | .index t x i => match P.underlying t with
    | some (.array len e) => (sizeT P e).bind fun n => if (P.underlying e).isSome then some (.index (isAggT P e) len n x i) else none
    | some .string => some (.indexStr x i)
    | _ => none
  | .makeSlice t l c => match P.underlying t with
    | some (.slice e) => (zeroL P e).bind fun z => (P.info? e).bind fun i => if 0 < i.size then some (.makeSlice i.size i.bytes z l c) else none
    | _ => none
  | .slice t x lo hi mx => match P.underlying t with
    | some (.slice e) => match mx with
      | none => (sizeT P e).map fun n => .slice n x lo hi
      | some m => match lo, hi, m with
        | none, some (.const (.int _ 0)), .const (.int _ 0) => if (sizeT P e).isSome then some (.slice0 x) else none
        | _, _, _ => none
    | some (.array n e) => if mx.isNone then (sizeT P e).map fun m => .sliceArr n m x lo hi else none
    | some (.pointer a) => match P.underlying a with
      | some (.array n e) => if mx.isNone then (sizeT P e).map fun m => .sliceArr n m x lo hi else none
      | _ => none
    | _ => none
  | .makeFunc (.func g) first cap => some (.makeFunc (.func g) first.toList cap.toList)
  | .extract x i => some (.extract x i)
  | .makeMap t none => (mapTy P t).map fun k => .map .make k.1 k.2 (.const (.bool false)) (.const (.bool false)) (.const (.bool false))
  | .lookup t m i ok => (mapTy P t).map fun k => .map (.look ok) k.1 k.2 m i (.const (.bool false))
  | .mapUpdate t m i v => (mapTy P t).map fun k => .map .upd k.1 k.2 m i v
  | .call c => match c.callee with
    | .builtin .len => match c.argTypes[0]?, c.args.toList with
      | some t, [x] => match P.underlying t with
        | some (.slice _) => some (.len x)
        | some .string => some (.lenS x)
        | some (.array n _) => some (.lenC n)
        | some (.pointer a) => match P.underlying a with
          | some (.array n _) => some (.lenC n)
          | _ => none
        | _ => none
      | _, _ => none
    | .builtin .append => match c.argTypes.toList, c.args.toList with
      | [s, u], [x, y] => match P.underlying s, P.underlying u with
        | some (.slice e), some (.slice _) => (P.info? e).bind fun i => if 0 < i.size ∧ (zeroL P e).isSome then some (.append i.size i.bytes x y) else none
        | _, _ => none
      | _, _ => none
    | .builtin .copy => match c.argTypes.toList, c.args.toList with
      | [s, u], [x, y] => match P.underlying s, P.underlying u with
        | some (.slice e), some (.slice _) => (sizeT P e).bind fun n => if 0 < n then some (.copy n x y) else none
        | _, _ => none
      | _, _ => none
    | .builtin .delete => match c.argTypes[0]?, c.args.toList with
      | some t, [m, i] => (mapTy P t).map fun k => .map .del k.1 k.2 m i (.const (.bool false))
      | _, _ => none
    | .builtin .min => some (.minmax false c.args.toList)
    | .builtin .max => some (.minmax true c.args.toList)
    | .value f => (resTy P o.type).map fun r => .call (flatCall P f r.1) f c.args.toList r.1 r.2
    | _ => none
  | _ => none
def compOper (P : Program) (ops : Array Oper) (o : Oper) : Option AOper :=
  (compOp P o).bind fun a => match o.guard with
    | none => some ⟨o.dst, a, none⟩
    | some (j, want) => ((ops[j]?).bind (·.dst)).map fun d => ⟨o.dst, a, some (d, want)⟩
inductive AKind | pure | load | eff
  deriving DecidableEq
def kindOf : AOp → AKind
  | .load _ _ _ => .load
  | .buildSlice _ _ _ _ | .alloc _ | .box _ | .store _ _ _ | .makeSlice _ _ _ _ _ | .append _ _ _ _ | .copy _ _ _ | .map _ _ _ _ _ _ => .eff
  | .call flat _ _ _ _ => if flat then .pure else .eff
  | _ => .pure
def opndTmps (l : List Operand) : List Nat := l.filterMap fun | .tmp t => some t | _ => none
def readsOf : AOp → List Nat
  | .mv x | .un _ x | .conv _ x | .eqNil _ _ x | .box x | .load _ _ x | .nilCheck x | .fieldAddr _ x | .field _ _ _ x | .extract x _ | .len x | .lenS x | .slice0 x => opndTmps [x]
  | .pick a b c => opndTmps [a, b, c]
  | .made _ _ a b c => opndTmps [a, b, c]
  | .map _ _ _ a b c => opndTmps [a, b, c]
  | .bin _ x y | .binB _ x y | .eqAgg _ _ x y | .store _ x y | .indexAddr _ x y | .indexArr _ _ x y | .index _ _ _ x y | .indexStr x y | .makeSlice _ _ _ x y | .append _ _ x y | .copy _ x y => opndTmps [x, y]
  | .build _ ps => opndTmps (ps.map (·.2.2))
  | .buildSlice _ _ _ ps => opndTmps (ps.map (·.2.2))
  | .alloc _ => []
  | .slice _ x lo hi => opndTmps ([x] ++ lo.toList ++ hi.toList)
  | .sliceArr _ _ x lo hi => opndTmps ([x] ++ lo.toList ++ hi.toList)
  | .makeFunc _ a b => opndTmps (a ++ b)
  | .call _ f args _ _ => opndTmps (f :: args)
  | .lenC _ => []
  | .minmax _ xs => opndTmps xs
def readsO (o : AOper) : List Nat :=
  readsOf o.op ++ (match o.guard with | some (g, _) => [g] | none => [])
def isFirst (o : AOper) : Bool :=
  match o.op, o.guard, o.dst with
  | .alloc _, none, some _ => true
  | _, _, _ => false
def closedE (ops : Array Oper) (bef : Array Nat) : Bool :=
  ops.toList.zipIdx.all fun (o, j) => (o.after.toList.all fun e => !Region.binds .any e || decide (e.on < j)) &&
    (List.range j).all fun i => !((bef.getD j 0).testBit i) || o.after.toList.any fun e => Region.binds .any e && (e.on == i || (decide (i < e.on) && (bef.getD e.on 0).testBit i))
def preO (bef : Array Nat) (i j : Nat) : Bool := decide (i < j) && (bef.getD j 0).testBit i
def ordO (bef : Array Nat) (i j : Nat) : Bool := preO bef i j || preO bef j i
def isEff (o : AOper) : Bool := match kindOf o.op with | .eff => true | _ => false
def isLoad (o : AOper) : Bool := match kindOf o.op with | .load => true | _ => false
def drawFit (bef : Array Nat) (l : List AOper) : Bool :=
  l.zipIdx.all fun (a, i) => l.zipIdx.all fun (b, j) => i == j ||
    ((ordO bef i j || !(isEff a && isEff b)) &&
     (match a.dst with | some d => (!((readsO b).contains d) || ordO bef i j) && b.dst != some d | none => true))
def drawChk (bef : Array Nat) (l : List AOper) : List (Nat × Nat) :=
  (l.zipIdx.filter fun (a, _) => isLoad a).flatMap fun (_, i) => (l.zipIdx.filter fun (b, j) => isEff b && !(ordO bef i j)).map fun (_, j) => (i, j)
def repO (o : AOper) : AOper := if isFirst o then ⟨o.dst, .nilCheck (.tmp (o.dst.getD 0)), none⟩ else o
def firstChk (bef : Array Nat) (l : List AOper) : List (Nat × Nat) :=
  (l.zipIdx.filter fun (a, _) => isFirst a).flatMap fun (_, i) => (l.zipIdx.filter fun (b, j) => isEff b && !isFirst b && !(preO bef i j)).map fun (_, j) => (i, j)
def firstRd (bef : Array Nat) (l : List AOper) : Bool :=
  l.zipIdx.all fun (a, i) => !isFirst a || l.zipIdx.all fun (b, j) => i == j || match a.dst with
    | some d => !((readsO b).contains d) || preO bef i j
    | none => true
def isMk (o : AOper) : Bool :=
  match o.op, o.guard, o.dst with
  | .makeSlice _ _ _ _ _, none, some _ => true
  | _, _, _ => false
def isFm (o : AOper) : Bool := isFirst o || isMk o
def preL : List AOper → List Bool × List Nat
  | [] => ([], [])
  | o :: r => match preL r with
    | (fs, nd) => if isFm o || (match o.dst with | some d => nd.contains d | none => false) then (true :: fs, readsO o ++ nd) else (false :: fs, nd)
def preB (fs : List Bool) (j : Nat) : Bool := fs.getD j false
def preOps (fs : List Bool) (l : List AOper) : List AOper := (l.zipIdx.filter fun (_, j) => preB fs j).map (·.1)
def repM (o : AOper) : AOper :=
  if isFirst o then ⟨o.dst, .nilCheck (.tmp (o.dst.getD 0)), none⟩
  else if isMk o then match o.op with
    | .makeSlice esz bytes _ l c => ⟨o.dst, .made esz bytes l c (.tmp (o.dst.getD 0)), none⟩
    | _ => o
  else o
def makeChk (bef : Array Nat) (l : List AOper) : List (Nat × Nat) :=
  (l.zipIdx.filter fun (a, _) => isFm a).flatMap fun (_, i) => (l.zipIdx.filter fun (b, j) => isEff b && !isFm b && !(preO bef i j)).map fun (_, j) => (i, j)
def preOk (bef : Array Nat) (fs : List Bool) (l : List AOper) : Bool :=
  l.zipIdx.all fun (a, i) =>
    (if isFm a then preB fs i else (!preB fs i || !isEff a)) &&
    (!preB fs i || l.zipIdx.all fun (b, j) => match a.dst with
      | some d => !((readsO b).contains d) || preO bef i j
      | none => true)
def drawOf (bef : Array Nat) (l : List AOper) : Option ACode :=
  if drawFit bef l then some (.draw [] 0 (l.map fun a => (a, none)) (drawChk bef l))
  else if drawFit bef (l.map repO) && firstRd bef l then
    some (.draw (l.filter isFirst) 0 ((l.map repO).map fun a => (a, none)) (drawChk bef (l.map repO) ++ firstChk bef l))
  else if drawFit bef (l.map repM) && preOk bef (preL l).1 l then
    some (.draw (preOps (preL l).1 l) 0 ((l.map repM).map fun a => (a, none)) (drawChk bef (l.map repM) ++ makeChk bef l))
  else none
def findA : ACode → Nat → Option ACode
  | .seq a b, l => match findA a l with
    | some r => some (.seq r b)
    | none => findA b l
  | .block id _, l => if id = gotoB + l then some .skip else none
  | _, _ => none
def labsA : ACode → List Nat
  | .seq a b => labsA a ++ labsA b
  | .block id _ => if gotoB ≤ id then [id - gotoB] else []
  | _ => []
def scopeA (b : ACode) : Option ACode :=
  match labsA b with
  | [l] => (findA b l).map fun r => .scope l b r
  | _ => none
def comp (P : Program) : Code → Option ACode
  | .skip => some .skip
  | .region _ ops draw =>
    (ops.toList.mapM (compOper P ops)).bind fun l =>
      if draw then
        if closedE ops (Region.before ops) then
          drawOf (Region.before ops) l
        else none
      else some (.ops l)
  | .seq a b => (comp P a).bind fun a => (comp P b).bind fun b => some (.seq a b)
  | .cond c a b => (comp P a).bind fun a => (comp P b).bind fun b => some (.cond c a b)
  | .block id b => (comp P b).bind fun b => if id < gotoB then some (.block id b) else none
  | .loop b => (comp P b).map .loop
  | .rangeFunc f params assign body => (comp P assign).bind fun a => (comp P body).bind fun b => some (.rangeFunc f params.toList a b)
  | .exit id => if id < gotoB then some (.exit id) else none
  | .ret => some .ret
  | .label l => some (.block (gotoB + l) .skip)
  | .goto l => some (.exit (gotoB + l))
  | .scope c => (comp P c).bind scopeA
  | _ => none
def erase : ACode → ACode
  | .seq a b => .seq (erase a) (erase b)
  | .cond c a b => .cond c (erase a) (erase b)
  | .block id b => .block id (erase b)
  | .loop b => .loop (erase b)
  | .rangeFunc f ps a b => .rangeFunc f ps (erase a) (erase b)
  | .clear _ c => erase c
  | .post c _ => erase c
  | .scope l b r => .scope l (erase b) (erase r)
  | c => c
theorem findA_labs : ∀ (b : ACode) (l : Nat) (r : ACode), findA b l = some r → l ∈ labsA b := by
  intro b
  induction b with
  | seq a b iha ihb =>
    intro l r h
    simp only [findA] at h
    simp only [labsA, List.mem_append]
    split at h
    · rename_i r' h'; exact .inl (iha _ _ h')
    · exact .inr (ihb _ _ h)
  | block id b ih =>
    intro l r h
    simp only [findA] at h
    split at h
    · rename_i e
      subst e
      simp only [labsA]
      rw [if_pos (by omega)]
      simp
    · cases h
  | _ => intro l r h; simp [findA] at h
theorem find_comp {P : Program} : ∀ (c : Code) (b : ACode), comp P c = some b → ∀ l, (∀ rest, findLabel c l = some rest → ∃ r, findA b l = some r ∧ comp P rest = some r) ∧ (findLabel c l = none → findA b l = none) := by
  intro c
  induction c with
  | seq x y ihx ihy =>
    intro b h l
    simp only [comp] at h
    obtain ⟨a1, h1, h2⟩ := bsi.1 h
    obtain ⟨a2, h3, h4⟩ := bsi.1 h2
    cases h4
    have kx := ihx a1 h1 l
    have ky := ihy a2 h3 l
    simp only [findLabel, findA]
    cases hx : findLabel x l with
    | some rest =>
      obtain ⟨r, q1, q2⟩ := kx.1 rest hx
      rw [q1]
      refine ⟨fun rest' e => ?_, fun e => (by cases e)⟩
      cases e
      exact ⟨_, rfl, by simp only [comp, q2, h3, Option.bind_some]⟩
    | none =>
      rw [kx.2 hx]
      exact ky
  | label l' =>
    intro b h l
    simp only [comp] at h
    cases h
    simp only [findLabel, findA]
    by_cases e : l' = l
    · subst e
      simp only [beq_self_eq_true, if_true]
      exact ⟨fun rest e => (by cases e; exact ⟨_, rfl, rfl⟩), fun e => (by cases e)⟩
    · have e1 : (l' == l) = false := beq_eq_false_iff_ne.2 e
      have e2 : ¬ gotoB + l' = gotoB + l := by omega
      simp only [e1, e2, if_false, Bool.false_eq_true]
      exact ⟨fun rest e => (by cases e), fun _ => trivial⟩
  | block id c ih =>
    intro b h l
    simp only [comp] at h
    obtain ⟨a1, h1, h2⟩ := bsi.1 h
    split at h2
    · cases h2
      have : ¬ id = gotoB + l := by omega
      simp only [findLabel, findA, this, if_false]
      exact ⟨fun rest e => (by cases e), fun _ => trivial⟩
    · cases h2
  | region id ops draw =>
    intro b h l
    simp only [comp] at h
    obtain ⟨a1, h1, h2⟩ := bsi.1 h
    refine ⟨fun rest e => (by simp [findLabel] at e), fun _ => ?_⟩
    split at h2
    · split at h2
      · unfold drawOf at h2
        split at h2
        · cases h2; rfl
        · split at h2
          · cases h2; rfl
          · split at h2
            · cases h2; rfl
            · cases h2
      · cases h2
    · cases h2; rfl
  | scope c ih =>
    intro b h l
    simp only [comp] at h
    obtain ⟨a1, h1, h2⟩ := bsi.1 h
    refine ⟨fun rest e => (by simp [findLabel] at e), fun _ => ?_⟩
    unfold scopeA at h2
    split at h2
    · obtain ⟨r, q1, q2⟩ := msi.1 h2
      subst q2; rfl
    · cases h2
  | exit id =>
    intro b h l
    simp only [comp] at h
    split at h
    · cases h; exact ⟨fun rest e => (by simp [findLabel] at e), fun _ => rfl⟩
    · cases h
  | cond q x y _ _ =>
    intro b h l
    simp only [comp] at h
    obtain ⟨a1, h1, h2⟩ := bsi.1 h
    obtain ⟨a2, h3, h4⟩ := bsi.1 h2
    cases h4
    exact ⟨fun rest e => (by simp [findLabel] at e), fun _ => rfl⟩
  | loop c _ =>
    intro b h l
    simp only [comp] at h
    obtain ⟨a1, h1, h2⟩ := msi.1 h
    cases h2
    exact ⟨fun rest e => (by simp [findLabel] at e), fun _ => rfl⟩
  | rangeFunc f ps x y _ _ =>
    intro b h l
    simp only [comp] at h
    obtain ⟨a1, h1, h2⟩ := bsi.1 h
    obtain ⟨a2, h3, h4⟩ := bsi.1 h2
    cases h4
    exact ⟨fun rest e => (by simp [findLabel] at e), fun _ => rfl⟩
  | skip => intro b h l; simp only [comp] at h; cases h; exact ⟨fun rest e => (by simp [findLabel] at e), fun _ => rfl⟩
  | ret => intro b h l; simp only [comp] at h; cases h; exact ⟨fun rest e => (by simp [findLabel] at e), fun _ => rfl⟩
  | goto l' => intro b h l; simp only [comp] at h; cases h; exact ⟨fun rest e => (by simp [findLabel] at e), fun _ => rfl⟩
  | refuse why => intro b h; simp only [comp] at h; cases h
def compRes (P : Program) : ResultVar → Option ARes
  | .tmp t => some (.tmp t)
  | .cell a t => (ty1 P t).map fun x => .cell x.1 x.2 a
def OkFun (P : Program) (g : FuncId) (a : AFun) : Prop :=
  ∃ fn body, P.funcs[g]? = some fn ∧ fn.body = some body ∧ (fn.name == "runtime.NumGoroutine") = false ∧ fn.ntmps = a.ntmps ∧
    fn.results.toList.mapM (compRes P) = some a.res ∧ comp P body = some (erase a.code)
open Go Go.RowKit
abbrev Iota := Nat → Option (Nat × Nat)
def szW (W : World) (b : Nat) : Nat :=
  match W.heap[b]? with
  | some (.cells c _ _) => c.size
  | _ => 0
inductive VRel (A : AMem) (ι : Iota) (W : World) : Value → Value → Prop
  | junk (v' : Value) : VRel A ι W junk v'
  | flat (v : Value) (h : flatLeaf v = true) : VRel A ι W v v
  | ptr (p : Addr) (b o : Nat) (hi : ι p.block = some (b, o)) : VRel A ι W (.pointer (some p)) (.pointer (some ⟨b, o + p.off, none⟩))
  | ptrDead (p q : Addr) (h : A[p.block]? = some .dead) : VRel A ι W (.pointer (some p)) (.pointer (some q))
  | slice (p : Addr) (n c c' b o : Nat) (hi : ι p.block = some (b, o)) (hs : p.spot = none) (hc : n ≤ c')
      (hb : c ≠ 0 → o + p.off + c' * c ≤ szW W b) : VRel A ι W (.slice (some p) n c) (.slice (some ⟨b, o + p.off, none⟩) n c')
  | sliceDead (p q : Addr) (n c c' : Nat) (h : A[p.block]? = some .dead) (hs : p.spot = none) (hc : n ≤ c') : VRel A ι W (.slice (some p) n c) (.slice (some q) n c')
  | sliceEmpty (p q : Addr) (c : Nat) : VRel A ι W (.slice (some p) 0 c) (.slice (some q) 0 0)
  | func (g : FuncId) (x x' y y' : Array Value) (hx : x.size = x'.size) (hy : y.size = y'.size)
      (rx : ∀ (j : Nat) (v v' : Value), x[j]? = some v → x'[j]? = some v' → VRel A ι W v v') (ry : ∀ (j : Nat) (v v' : Value), y[j]? = some v → y'[j]? = some v' → VRel A ι W v v') :
      VRel A ι W (.func (.func g) x y) (.func (.func g) x' y')
  | yield (l l' : Nat) (hi : ι l = some (l', 0)) : VRel A ι W (.func (.yield l) #[] #[]) (.func (.yield l') #[] #[])
  | map (l l' : Nat) (hi : ι l = some (l', 0)) : VRel A ι W (.map (some l)) (.map (some l'))
  | mapDead (l l' : Nat) (h : A[l]? = some .dead) : VRel A ι W (.map (some l)) (.map (some l'))
  | yieldDead (l l' : Nat) (h : A[l]? = some .dead) : VRel A ι W (.func (.yield l) #[] #[]) (.func (.yield l') #[] #[])
  | agg (x x' : Array Value) (hx : x.size = x'.size) (rx : ∀ (j : Nat) (v v' : Value), x[j]? = some v → x'[j]? = some v' → VRel A ι W v v') : VRel A ι W (.agg x) (.agg x')
  | tuple (x x' : Array Value) (hx : x.size = x'.size) (rx : ∀ (j : Nat) (v v' : Value), x[j]? = some v → x'[j]? = some v' → VRel A ι W v v') : VRel A ι W (.tuple x) (.tuple x')
def LRel (A : AMem) (ι : Iota) (W : World) (l l' : List Value) : Prop :=
  l.length = l'.length ∧ ∀ (j : Nat) (v v' : Value), l[j]? = some v → l'[j]? = some v' → VRel A ι W v v'
def VerLe (A A' : AMem) : Prop := ∀ (a : Nat) (cs : List Value) (m : Meta), A[a]? = some (.cells cs m) →
  A'[a]? = some .dead ∨ ∃ cs' m', A'[a]? = some (.cells cs' m') ∧ m.ver ≤ m'.ver ∧ (m'.ver = m.ver → cs' = cs)
theorem VerLe.refl (A : AMem) : VerLe A A := fun a cs m h => .inr ⟨cs, m, h, Nat.le_refl _, fun _ => rfl⟩
theorem VerLe.trans {A A' A'' : AMem} (hd : ∀ a : Nat, A'[a]? = some .dead → A''[a]? = some .dead) (h : VerLe A A') (k : VerLe A' A'') : VerLe A A'' := fun a cs m hA => by
  rcases h a cs m hA with h1 | ⟨cs', m', h1, h2, h3⟩
  · exact .inl (hd a h1)
  · rcases k a cs' m' h1 with k1 | ⟨cs'', m'', k1, k2, k3⟩
    · exact .inl k1
    · exact .inr ⟨cs'', m'', k1, Nat.le_trans h2 k2, fun e => by
        have e1 : m''.ver = m'.ver := by omega
        rw [k3 e1, h3 (by omega)]⟩
theorem VerLe.put {A A' : AMem} (n : Nat) (hA : ∀ a : Nat, a ≠ n → A'[a]? = A[a]?) (hn : ∀ cs m, A[n]? = some (.cells cs m) →
    A'[n]? = some .dead ∨ ∃ cs' m', A'[n]? = some (.cells cs' m') ∧ m.ver ≤ m'.ver ∧ (m'.ver = m.ver → cs' = cs)) : VerLe A A' := fun a cs m h => by
  by_cases e : a = n
  · subst e; exact hn cs m h
  · exact .inr ⟨cs, m, by rw [hA a e]; exact h, Nat.le_refl _, fun _ => rfl⟩
structure Le (A : AMem) (ι : Iota) (W : World) (A' : AMem) (ι' : Iota) (W' : World) : Prop where
  dead : ∀ a : Nat, A[a]? = some .dead → A'[a]? = some .dead
  live : ∀ (a b o : Nat), ι a = some (b, o) → A'[a]? = some .dead ∨ ι' a = some (b, o)
  size : ∀ b : Nat, szW W b ≤ szW W' b
  ver : VerLe A A'
  len : A.length ≤ A'.length
  old : ∀ a : Nat, a < A.length → ι a = none → ι' a = none
theorem Le.refl (A : AMem) (ι : Iota) (W : World) : Le A ι W A ι W := ⟨fun _ h => h, fun _ _ _ h => .inr h, fun _ => Nat.le_refl _, .refl _, Nat.le_refl _, fun _ _ h => h⟩
theorem Le.trans {A : AMem} {ι : Iota} {W : World} {A' : AMem} {ι' : Iota} {W' : World} {A'' : AMem} {ι'' : Iota} {W'' : World}
    (h : Le A ι W A' ι' W') (k : Le A' ι' W' A'' ι'' W'') : Le A ι W A'' ι'' W'' := by
  refine ⟨fun a ha => k.dead a (h.dead a ha), fun a b o hi => ?_, fun b => Nat.le_trans (h.size b) (k.size b), h.ver.trans k.dead k.ver, Nat.le_trans h.len k.len, fun a ha hn => k.old a (Nat.lt_of_lt_of_le ha h.len) (h.old a ha hn)⟩
  rcases h.live a b o hi with hd | h1
  · exact .inl (k.dead a hd)
  · exact k.live a b o h1
theorem VRel.mono {A : AMem} {ι : Iota} {W : World} {A' : AMem} {ι' : Iota} {W' : World} (hle : Le A ι W A' ι' W') {v v' : Value}
    (h : VRel A ι W v v') : VRel A' ι' W' v v' := by
  induction h with
  | junk v' => exact .junk v'
  | flat v h => exact .flat v h
  | ptr p b o hi =>
    rcases hle.live _ _ _ hi with hd | h1
    · exact .ptrDead p _ hd
    · exact .ptr p b o h1
  | ptrDead p q h => exact .ptrDead p q (hle.dead _ h)
  | slice p n c c' b o hi hs hc hb =>
    rcases hle.live _ _ _ hi with hd | h1
    · exact .sliceDead p _ n c c' hd hs hc
    · exact .slice p n c c' b o h1 hs hc fun hz => Nat.le_trans (hb hz) (hle.size b)
  | sliceDead p q n c c' h hs hc => exact .sliceDead p q n c c' (hle.dead _ h) hs hc
  | sliceEmpty p q c => exact .sliceEmpty p q c
  | func g x x' y y' hx hy _ _ ihx ihy => exact .func g x x' y y' hx hy ihx ihy
  | yield l l' hi =>
    rcases hle.live _ _ _ hi with hd | h1
    · exact .yieldDead l l' hd
    · exact .yield l l' h1
  | yieldDead l l' h => exact .yieldDead l l' (hle.dead _ h)
  | map l l' hi =>
    rcases hle.live _ _ _ hi with hd | h1
    · exact .mapDead l l' hd
    · exact .map l l' h1
  | mapDead l l' h => exact .mapDead l l' (hle.dead _ h)
  | agg x x' hx _ ih => exact .agg x x' hx ih
  | tuple x x' hx _ ih => exact .tuple x x' hx ih
theorem LRel.mono {A : AMem} {ι : Iota} {W : World} {A' : AMem} {ι' : Iota} {W' : World} (hle : Le A ι W A' ι' W') {l l' : List Value}
    (h : LRel A ι W l l') : LRel A' ι' W' l l' := ⟨h.1, fun j v v' a b => (h.2 j v v' a b).mono hle⟩
section lrel
variable {A : AMem} {ι : Iota} {W : World}
theorem LRel.nil : LRel A ι W [] [] := ⟨rfl, fun j v v' h _ => by simp at h⟩
theorem LRel.cons {v v' : Value} {l l' : List Value} (h : VRel A ι W v v') (k : LRel A ι W l l') : LRel A ι W (v :: l) (v' :: l') := by
  refine ⟨by simp [k.1], fun j u u' a b => ?_⟩
  cases j with
  | zero => simp at a b; subst a; subst b; exact h
  | succ j => simp at a b; exact k.2 j u u' a b
theorem LRel.inv {v : Value} {l l' : List Value} (h : LRel A ι W (v :: l) l') : ∃ v' r, l' = v' :: r ∧ VRel A ι W v v' ∧ LRel A ι W l r := by
  cases l' with
  | nil => have := h.1; simp at this
  | cons v' r => exact ⟨v', r, rfl, h.2 0 v v' rfl rfl, by have := h.1; simpa using this, fun j u u' a b => h.2 (j + 1) u u' (by simpa using a) (by simpa using b)⟩
theorem LRel.inv_nil {l' : List Value} (h : LRel A ι W [] l') : l' = [] := by
  have := h.1; simp at this; exact List.length_eq_zero_iff.1 this.symm
theorem LRel.append {l l' k k' : List Value} (h : LRel A ι W l l') (g : LRel A ι W k k') : LRel A ι W (l ++ k) (l' ++ k') := by
  refine ⟨by simp [h.1, g.1], fun j v v' a b => ?_⟩
  rw [List.getElem?_append] at a b
  rw [← h.1] at b
  split at a
  · rename_i hj; rw [if_pos hj] at b; exact h.2 j v v' a b
  · rename_i hj; rw [if_neg hj] at b; exact g.2 _ v v' a b
theorem LRel.get {l l' : List Value} (h : LRel A ι W l l') {j : Nat} {v : Value} (a : l[j]? = some v) : ∃ v', l'[j]? = some v' ∧ VRel A ι W v v' := by
  have hj : j < l'.length := h.1 ▸ (ges.1 a).1
  exact ⟨l'[j], gee hj, h.2 j v _ a (gee hj)⟩
theorem LRel.set {l l' : List Value} (h : LRel A ι W l l') (i : Nat) {v v' : Value} (k : VRel A ι W v v') : LRel A ι W (l.set i v) (l'.set i v') := by
  refine ⟨by simp [h.1], fun j u u' a b => ?_⟩
  rw [List.getElem?_set] at a b
  rw [← h.1] at b
  split at a
  · rename_i hj
    subst hj
    rw [if_pos rfl] at b
    split at a
    · rename_i hl; rw [if_pos hl] at b; simp at a b; subst a; subst b; exact k
    · simp at a
  · rename_i hj; rw [if_neg hj] at b; exact h.2 j u u' a b
theorem LRel.take {l l' : List Value} (h : LRel A ι W l l') (n : Nat) : LRel A ι W (l.take n) (l'.take n) := by
  refine ⟨by simp [h.1], fun j u u' a b => ?_⟩
  rw [List.getElem?_take] at a b
  split at a
  · rename_i hj; rw [if_pos hj] at b; exact h.2 j u u' a b
  · simp at a
theorem LRel.drop {l l' : List Value} (h : LRel A ι W l l') (n : Nat) : LRel A ι W (l.drop n) (l'.drop n) := by
  refine ⟨by simp [h.1], fun j u u' a b => ?_⟩
  rw [List.getElem?_drop] at a b
  exact h.2 _ u u' a b
theorem LRel.of_map {α : Type} (f g : α → Value) (l : List α) (h : ∀ x ∈ l, VRel A ι W (f x) (g x)) : LRel A ι W (l.map f) (l.map g) := by
  induction l with
  | nil => exact LRel.nil
  | cons x r ih => exact LRel.cons (h x (by simp)) (ih fun y hy => h y (by simp [hy]))
theorem VRel.flatV' {v : Value} (h : flatV v = true) : VRel A ι W v v := by
  cases v with
  | agg cs =>
    refine .agg cs cs rfl fun j u u' a b => ?_
    rw [a] at b
    obtain rfl := Option.some.inj b
    refine .flat u ?_
    simp only [flatV, List.all_eq_true] at h
    exact h u (Array.mem_toList_iff.2 (Array.mem_of_getElem? a))
  | _ => exact .flat _ h
theorem VRel.undef' : VRel A ι W undef undef := .tuple #[] #[] rfl fun j u u' a b => by simp at a
theorem flatLeaf_eq {v v' : Value} (h : VRel A ι W v v') (hf : flatLeaf v = true) : v = v' := by
  cases h with
  | junk => simp [Ax.junk, flatLeaf] at hf
  | flat => rfl
  | ptr => simp [flatLeaf] at hf
  | ptrDead => simp [flatLeaf] at hf
  | slice => simp [flatLeaf] at hf
  | sliceDead => simp [flatLeaf] at hf
  | sliceEmpty => simp [flatLeaf] at hf
  | func => simp [flatLeaf] at hf
  | yield => simp [flatLeaf] at hf
  | yieldDead => simp [flatLeaf] at hf
  | map => simp [flatLeaf] at hf
  | mapDead => simp [flatLeaf] at hf
  | agg => simp [flatLeaf] at hf
  | tuple => simp [flatLeaf] at hf
theorem flatV_eq {v v' : Value} (h : VRel A ι W v v') (hf : flatV v = true) : v = v' := by
  cases v with
  | agg cs =>
    cases h with
    | flat => rfl
    | agg x x' hx rx =>
      congr 1
      refine Array.ext hx fun j h1 h2 => ?_
      refine flatLeaf_eq (rx j _ _ (Array.getElem?_eq_getElem h1) (Array.getElem?_eq_getElem h2)) ?_
      simp only [flatV, List.all_eq_true] at hf
      exact hf _ (Array.mem_toList_iff.2 (Array.getElem_mem h1))
  | _ => exact flatLeaf_eq h hf
theorem cellsL_rel {v v' : Value} (h : VRel A ι W v v') (hj : (cellsL v).all leafV = true) : LRel A ι W (cellsL v) (cellsL v') := by
  have one : ∀ u u' : Value, VRel A ι W u u' → LRel A ι W [u] [u'] := fun u u' k => LRel.cons k LRel.nil
  cases h with
  | junk v' => simp [Ax.junk, cellsL, leafV] at hj
  | agg x x' hx rx => exact ⟨by simpa [cellsL] using hx, fun j u u' a b => rx j u u' (by simpa [cellsL] using a) (by simpa [cellsL] using b)⟩
  | flat v hf =>
    cases v with
    | agg cs => simp [flatLeaf] at hf
    | _ => exact one _ _ (.flat _ hf)
  | ptr p b o hi => exact one _ _ (.ptr p b o hi)
  | ptrDead p q h => exact one _ _ (.ptrDead p q h)
  | slice p n c c' b o hi hs hc hb => exact one _ _ (.slice p n c c' b o hi hs hc hb)
  | sliceDead p q n c c' h hs hc => exact one _ _ (.sliceDead p q n c c' h hs hc)
  | sliceEmpty p q c => exact one _ _ (.sliceEmpty p q c)
  | func g x x' y y' hx hy rx ry => exact one _ _ (.func g x x' y y' hx hy rx ry)
  | yield l l' hi => exact one _ _ (.yield l l' hi)
  | yieldDead l l' hi => exact one _ _ (.yieldDead l l' hi)
  | map l l' hi => exact one _ _ (.map l l' hi)
  | mapDead l l' hi => exact one _ _ (.mapDead l l' hi)
  | tuple x x' hx rx => exact one _ _ (.tuple x x' hx rx)
theorem cells_toList (v : Value) : v.cells.toList = cellsL v := by cases v <;> rfl
theorem leafV_rel {v v' : Value} (h : VRel A ι W v v') (hv : leafV v = true) : leafV v' = true := by
  cases h <;> first | exact hv | rfl | (simp [Ax.junk, leafV] at hv)
end lrel
def pendRel : Option AExit → Option Code → Prop
  | none, none => True
  | some .ret, some .ret => True
  | some (.exit i), some (.exit j) => i = j ∧ i < gotoB
  | some (.exit i), some (.goto l) => i = gotoB + l
  | _, _ => False
structure LoopRel (P : Program) (A : AMem) (ι : Iota) (W : World) (l : ALoop) (l' : Loop) : Prop where
  state : l'.state = l.state
  pend : pendRel l.pending l'.pending
  tmps : LRel A ι W l.tmps l'.tmps.toList
  params : l'.params.toList = l.params
  assign : comp P l'.assign = some (erase l.assign)
  body : comp P l'.body = some (erase l.body)
theorem LoopRel.mono {P : Program} {A : AMem} {ι : Iota} {W : World} {A' : AMem} {ι' : Iota} {W' : World} (hle : Le A ι W A' ι' W') {l : ALoop} {l' : Loop}
    (h : LoopRel P A ι W l l') : LoopRel P A' ι' W' l l' := { h with tmps := h.tmps.mono hle }
def Wrt (A : AMem) (a : Nat) : Prop := (∃ cs m, A[a]? = some (.cells cs m) ∧ m.ro = false) ∨ (∃ l, A[a]? = some (.loop l)) ∨ ∃ k kv es, A[a]? = some (.map k kv es)
def MapIn (W : World) (b : Nat) (k kv : IntKind) (es : List (Int × Int)) : Prop :=
  ∃ es' c, W.heap[b]? = some (.map es' c) ∧ es'.toList.map (fun e => (e.key, e.val)) = es.map fun e => (Value.int k e.1, Value.int kv e.2)
structure Sim (P : Program) (base : Nat) (A : AMem) (ι : Iota) (W : World) : Prop where
  has : ∀ (a b o : Nat), ι a = some (b, o) → ∃ x, A[a]? = some x ∧ x ≠ .room
  cells : ∀ (a b o : Nat) (cs : List Value) (m : Meta), ι a = some (b, o) → A[a]? = some (.cells cs m) →
    ∃ cs' t fr, W.heap[b]? = some (.cells cs' t fr) ∧ o + cs.length ≤ cs'.size ∧
      (∀ (j : Nat) (v : Value), cs[j]? = some v → ∃ v', cs'[o + j]? = some v' ∧ VRel A ι W v v') ∧ (m.ro = false → fr = (0, 0) ∧ base ≤ b)
  loop : ∀ (a b o : Nat) (l : ALoop), ι a = some (b, o) → A[a]? = some (.loop l) → ∃ l', W.heap[b]? = some (.loop l') ∧ LoopRel P A ι W l l' ∧ base ≤ b
  leaf : ∀ (a b o : Nat) (cs : List Value) (m : Meta), ι a = some (b, o) → A[a]? = some (.cells cs m) → cs.all leafV = true
  map : ∀ (a b o : Nat) (k kv : IntKind) (es : List (Int × Int)), ι a = some (b, o) → A[a]? = some (.map k kv es) → MapIn W b k kv es ∧ base ≤ b
  sep : ∀ (a a' b o o' : Nat), a ≠ a' → ι a = some (b, o) → ι a' = some (b, o') → Wrt A a → A[a']? = some .dead
structure Ev (base : Nat) (A : AMem) (ι : Iota) (W : World) (A' : AMem) (ι' : Iota) (W' : World) : Prop where
  le : Le A ι W A' ι' W'
  below : Below base W W'
  deferred : ∀ (r : Nat) (ds : Option (List Deferred)), W.heap[r]? = some (.deferred ds) → W'.heap[r]? = some (.deferred ds)
  loops : ∀ (r : Nat) (l : Loop), W.heap[r]? = some (.loop l) → ∃ l', W'.heap[r]? = some (.loop l')
theorem Ev.refl (base : Nat) (A : AMem) (ι : Iota) (W : World) : Ev base A ι W A ι W := ⟨.refl _ _ _, .refl _ _, fun _ _ h => h, fun _ l h => ⟨l, h⟩⟩
theorem Ev.trans {base : Nat} {A : AMem} {ι : Iota} {W : World} {A' : AMem} {ι' : Iota} {W' : World} {A'' : AMem} {ι'' : Iota} {W'' : World}
    (h : Ev base A ι W A' ι' W') (k : Ev base A' ι' W' A'' ι'' W'') : Ev base A ι W A'' ι'' W'' :=
  ⟨h.le.trans k.le, h.below.trans k.below, fun r ds e => k.deferred r ds (h.deferred r ds e), fun r l e => by obtain ⟨l', e'⟩ := h.loops r l e; exact k.loops r l' e'⟩
end Go.Ax
namespace Go.Ax
open Go
def Na {X : Type} (f : (X → Res) → Res) : Prop := ∃ o : Option X, ∀ K, f K = o.bind K
theorem ldLeaf_na (lf : Leaf) (src : Option Value) : Na (ldLeaf lf src) := by
  cases lf with
  | int k => exact ⟨(intOf? k src).map (.int k), fun K => by simp only [ldLeaf]; cases intOf? k src <;> rfl⟩
  | bool => exact ⟨(boolOf? src).map .bool, fun K => by simp only [ldLeaf]; cases boolOf? src <;> rfl⟩
  | str => exact ⟨(strOf? src).map .string, fun K => by simp only [ldLeaf]; cases strOf? src <;> rfl⟩
  | ptr => exact ⟨(ptrOf? src).map .pointer, fun K => by simp only [ldLeaf]; cases ptrOf? src <;> rfl⟩
  | slice => exact ⟨(sliceOf? src).map fun p => .slice p.1 p.2.1 p.2.2, fun K => by simp only [ldLeaf]; cases sliceOf? src <;> rfl⟩
  | any => exact ⟨anyOf? src, fun K => rfl⟩
theorem ldLeaves_na (get : Nat → Option Value) : ∀ (lfs : List Leaf) (i : Nat), Na (ldLeaves get lfs i)
  | [], i => ⟨some [], fun K => rfl⟩
  | lf :: r, i => by
    obtain ⟨o1, h1⟩ := ldLeaf_na lf (get i)
    obtain ⟨o2, h2⟩ := ldLeaves_na get r (i + 1)
    exact ⟨o1.bind fun v => o2.map fun vs => v :: vs, fun K => by simp only [ldLeaves, h1, h2]; cases o1 <;> cases o2 <;> rfl⟩
theorem view1_na (ty : Bool × List Leaf) (v : Value) : Na (view1 ty v) := by
  obtain ⟨g, lfs⟩ := ty
  unfold view1
  cases g with
  | true =>
    simp only [if_true]
    cases h : aggOf? lfs.length v with
    | none => exact ⟨none, fun K => rfl⟩
    | some cs =>
      obtain ⟨o, ho⟩ := ldLeaves_na (fun j => cs[j]?) lfs 0
      exact ⟨o.map fun vs => .agg vs.toArray, fun K => by simp only [Option.bind_some, ho]; cases o <;> rfl⟩
  | false =>
    simp only [Bool.false_eq_true, if_false]
    match lfs with
    | [lf] => exact ldLeaf_na lf (some v)
    | [] => exact ⟨none, fun K => rfl⟩
    | _ :: _ :: _ => exact ⟨none, fun K => rfl⟩
theorem viewN_na (cs : List Value) : ∀ (ret : List (Bool × List Leaf)) (i : Nat), Na (viewN cs ret i)
  | [], i => ⟨some [], fun K => rfl⟩
  | ty :: r, i => by
    obtain ⟨o2, h2⟩ := viewN_na cs r (i + 1)
    cases h : cs[i]? with
    | none => exact ⟨none, fun K => by simp only [viewN, h]; rfl⟩
    | some u =>
      obtain ⟨o1, h1⟩ := view1_na ty u
      exact ⟨o1.bind fun v => o2.map fun vs => v :: vs, fun K => by simp only [viewN, h, Option.bind_some, h1, h2]; cases o1 <;> cases o2 <;> rfl⟩
theorem view_na (ret : List (Bool × List Leaf)) (single : Bool) (v : Value) : Na (view ret single v) := by
  unfold view
  cases single with
  | true =>
    simp only [if_true]
    match ret with
    | [ty] => exact view1_na ty v
    | [] => exact ⟨none, fun K => rfl⟩
    | _ :: _ :: _ => exact ⟨none, fun K => rfl⟩
  | false =>
    simp only [Bool.false_eq_true, if_false]
    cases h : tupOf? ret.length v with
    | none => exact ⟨none, fun K => rfl⟩
    | some cs =>
      obtain ⟨o, ho⟩ := viewN_na cs ret 0
      exact ⟨o.map fun vs => .tuple vs.toArray, fun K => by simp only [Option.bind_some, ho]; cases o <;> rfl⟩
def opV (rec : Rec) (op : AOp) (t : List Value) (M : AMem) : Res := opK rec op t M fun v M => some (v, M)
theorem na_eq {X : Type} {f : (X → Res) → Res} (h : Na f) (g : X → Value × AMem) (K : Value × AMem → Res) : f (fun x => K (g x)) = (f fun x => some (g x)).bind K := by
  obtain ⟨o, ho⟩ := h
  rw [ho, ho]
  cases o <;> rfl
theorem bind_na {X : Type} (o : Option X) (F G : X → Res) (K : Value × AMem → Res) (h : ∀ x, F x = (G x).bind K) : o.bind F = (o.bind G).bind K := by
  cases o with
  | none => rfl
  | some x => exact h x
theorem binK_na (op : BinOp) (x y : Value) (g : Value → Value × AMem) (K : Value × AMem → Res) : (binK op x y fun v => K (g v)) = (binK op x y fun v => some (g v)).bind K := by
  unfold binK
  cases x <;> cases y <;> try rfl
  cases op <;> simp only [] <;> (repeat' split) <;> rfl
theorem unK_na (op : UnOp) (x : Value) (g : Value → Value × AMem) (K : Value × AMem → Res) : (unK op x fun v => K (g v)) = (unK op x fun v => some (g v)).bind K := by
  unfold unK
  cases op <;> cases x <;> rfl
theorem opK_na (rec : Rec) (op : AOp) (t : List Value) (M : AMem) (K : Value → AMem → Res) : opK rec op t M K = (opV rec op t M).bind fun p => K p.1 p.2 := by
  unfold opV
  cases op with
  | bin o x y => simp only [opK]; exact binK_na o _ _ (fun v => (v, M)) (fun p => K p.1 p.2)
  | un o x => simp only [opK]; exact unK_na o _ (fun v => (v, M)) (fun p => K p.1 p.2)
  | load agg lfs a =>
    simp only [opK]
    split
    · split
      · exact na_eq (ldLeaves_na _ lfs 0) (fun vs => (.agg vs.toArray, M)) (fun p => K p.1 p.2)
      · split
        · exact na_eq (ldLeaf_na _ _) (fun v => (v, M)) (fun p => K p.1 p.2)
        · rfl
    · rfl
  | call flat f args ret single =>
    simp only [opK]
    split
    · split
      · split
        · split
          · exact bind_na _ _ _ _ fun r => na_eq (view_na ret single r.1) (fun v => (v, M)) (fun p => K p.1 p.2)
          · rfl
        · exact bind_na _ _ _ _ fun r => na_eq (view_na ret single r.1) (fun v => (v, r.2)) (fun p => K p.1 p.2)
      · split
        · rfl
        · exact bind_na _ _ _ _ fun r => na_eq (view_na ret single r.1) (fun v => (v, r.2)) (fun p => K p.1 p.2)
      · rfl
    · rfl
  | pick c a b =>
    simp only [opK]
    cases ev t c <;> try rfl
    cases ev t a <;> cases ev t b <;> rfl
  | field agg off n x =>
    simp only [opK]
    cases ev t x <;> try rfl
    simp only []
    split
    · split <;> rfl
    · rename_i cs _
      cases cs.toList[off]? <;> rfl
  | index agg len esz x i =>
    simp only [opK, idxK_eq]
    cases ev t x <;> try rfl
    cases ev t i <;> try rfl
    simp only []
    split
    · split
      · split <;> rfl
      · exact bind_na _ _ _ _ fun _ => rfl
    · rfl
  | append esz bytes s x =>
    simp only [opK]
    cases ev t s <;> try rfl
    simp only []
    cases lenV (ev t x) <;> try rfl
    simp only [Option.bind_some]
    cases rowOf M esz (ev t x) <;> try rfl
    simp only [Option.bind_some]
    unfold appendK
    repeat' split
    all_goals rfl
  | copy esz d s =>
    simp only [opK]
    cases ev t d <;> try rfl
    simp only []
    cases lenV (ev t s) <;> try rfl
    simp only [Option.bind_some]
    cases rowOf M esz (ev t s) <;> try rfl
    simp only [Option.bind_some]
    unfold copyK
    split
    · rfl
    · split
      · cases AMem.wr M _ _ _ <;> rfl
      · rfl
  | store n a x =>
    simp only [opK]
    cases ev t a <;> try rfl
    rename_i p
    cases p <;> try rfl
    simp only []
    split
    · cases AMem.wr M _ _ _ <;> rfl
    · rfl
  | nilCheck x =>
    simp only [opK]
    cases ev t x <;> try rfl
    · rename_i p; cases p <;> rfl
    · rename_i f _ _; cases f <;> rfl
  | eqAgg lfs neg x y =>
    simp only [opK]
    cases ev t x <;> try rfl
    cases ev t y <;> try rfl
    simp only []
    cases leavesEq lfs _ _ <;> rfl
  | slice esz x lo hi =>
    simp only [opK]
    cases ev t x <;> try rfl
    simp only []
    cases boundOf t 0 lo <;> try rfl
    simp only [Option.bind_some]
    cases boundOf t _ hi <;> try rfl
    simp only [Option.bind_some]
    split <;> rfl
  | sliceArr len esz x lo hi =>
    simp only [opK]
    cases ev t x <;> try rfl
    rename_i p
    cases p <;> try rfl
    simp only []
    cases boundOf t 0 lo <;> try rfl
    simp only [Option.bind_some]
    cases boundOf t _ hi <;> try rfl
    simp only [Option.bind_some]
    split <;> rfl
  | buildSlice esz len zero parts => simp only [opK, newK]; cases fillL zero _ <;> rfl
  | build zero parts => simp only [opK]; cases fillL zero _ <;> rfl
  | eqNil kind neg x => simp only [opK]; cases isNil kind _ <;> rfl
  | minmax mx xs => simp only [opK]; cases mm mx _ <;> rfl
  | len x => simp only [opK]; cases lenV _ <;> rfl
  | extract x i =>
    simp only [opK]
    cases ev t x <;> try rfl
    rename_i vs
    simp only []
    cases vs.toList[i]? <;> rfl
  | indexStr x i =>
    simp only [opK]
    cases ev t x <;> try rfl
    cases ev t i <;> try rfl
    rename_i s _ j
    simp only []
    split
    · cases s.data.toList[j.toNat]? <;> rfl
    · rfl
  | box x => simp only [opK, newK]; split <;> rfl
  | makeSlice esz bytes zero l c =>
    simp only [opK, newK]
    cases ev t l <;> try rfl
    cases ev t c <;> try rfl
    simp only []
    split <;> rfl
  | indexAddr esz x i =>
    simp only [opK]
    cases ev t x with
    | slice p n c =>
      cases ev t i <;> cases p <;> try rfl
      simp only []
      split <;> rfl
    | _ => rfl
  | indexArr len esz x i =>
    simp only [opK]
    cases ev t x with
    | pointer p =>
      cases ev t i <;> cases p <;> try rfl
      simp only []
      split <;> rfl
    | _ => rfl
  | binB neg x y =>
    simp only [opK]
    cases ev t x <;> cases ev t y <;> rfl
  | conv k x =>
    simp only [opK]
    cases ev t x <;> rfl
  | fieldAddr off x =>
    simp only [opK]
    cases ev t x <;> try rfl
    rename_i p
    cases p <;> rfl
  | slice0 x =>
    simp only [opK]
    cases ev t x <;> try rfl
    rename_i p _ _
    cases p <;> rfl
  | lenS x =>
    simp only [opK]
    cases ev t x <;> rfl
  | mv x => rfl
  | made esz bytes l c d =>
    simp only [opK]
    cases ev t l <;> try rfl
    cases ev t c <;> try rfl
    cases ev t d <;> try rfl
    rename_i p _ _
    cases p <;> try rfl
    simp only []
    split <;> rfl
  | map kd k kv m i v =>
    simp only [opK, mapK]
    cases kd with
    | make => rfl
    | look ok =>
      simp only []
      cases mapOf? (some (ev t m)) <;> try rfl
      cases intOf? k (some (ev t i)) <;> try rfl
      rename_i r n
      simp only [Option.bind_some]
      cases M.mp k kv r <;> try rfl
      simp only [Option.bind_some]
      cases ok <;> rfl
    | upd =>
      simp only []
      cases mapOf? (some (ev t m)) <;> try rfl
      cases intOf? k (some (ev t i)) <;> try rfl
      cases intOf? kv (some (ev t v)) <;> try rfl
      rename_i r n x
      simp only [Option.bind_some]
      cases M.mp k kv r <;> rfl
    | del =>
      simp only []
      cases mapOf? (some (ev t m)) <;> try rfl
      cases intOf? k (some (ev t i)) <;> try rfl
      rename_i r n
      simp only [Option.bind_some]
      cases M.mp k kv r <;> rfl
  | alloc zero => rfl
  | makeFunc fn first cap => rfl
  | lenC n => rfl
theorem ev_same {t t2 : List Value} {x : Operand} (h : ∀ d ∈ opndTmps [x], t[d]? = t2[d]?) : ev t x = ev t2 x := by
  cases x with
  | tmp i =>
    have := h i (by simp [opndTmps])
    simp only [ev, List.getD_eq_getElem?_getD, this]
  | _ => rfl
theorem mem_opnd {l : List Operand} {x : Operand} (hx : x ∈ l) {d : Nat} (hd : d ∈ opndTmps [x]) : d ∈ opndTmps l := by
  unfold opndTmps at *
  obtain ⟨y, h1, h2⟩ := List.mem_filterMap.1 hd
  have : y = x := by simpa using h1
  subst this
  exact List.mem_filterMap.2 ⟨y, hx, h2⟩
theorem ev_in {t t2 : List Value} {l : List Operand} (h : ∀ d ∈ opndTmps l, t[d]? = t2[d]?) {x : Operand} (hx : x ∈ l) : ev t x = ev t2 x := ev_same fun d hd => h d (mem_opnd hx hd)
theorem evs_in {t t2 : List Value} {l l0 : List Operand} (h : ∀ d ∈ opndTmps l, t[d]? = t2[d]?) (hl : ∀ x ∈ l0, x ∈ l) : l0.map (ev t) = l0.map (ev t2) :=
  List.map_congr_left fun x hx => ev_in h (hl x hx)
theorem bound_in {t t2 : List Value} {l : List Operand} (h : ∀ d ∈ opndTmps l, t[d]? = t2[d]?) (d : Nat) (o : Option Operand) (hl : ∀ x ∈ o.toList, x ∈ l) : boundOf t d o = boundOf t2 d o := by
  cases o with
  | none => rfl
  | some x => simp only [boundOf, ev_in h (hl x (by simp))]
theorem opV_congr (rec : Rec) (op : AOp) {t t2 : List Value} (M : AMem) (h : ∀ d ∈ readsOf op, t[d]? = t2[d]?) : opV rec op t M = opV rec op t2 M := by
  unfold opV
  cases op <;> simp only [readsOf] at h <;> simp only [opK, newK]
  case pick c a b => rw [ev_in h (x := c) (by simp), ev_in h (x := a) (by simp), ev_in h (x := b) (by simp)]
  case map kd k kv m i v => rw [ev_in h (x := m) (by simp), ev_in h (x := i) (by simp), ev_in h (x := v) (by simp)]
  case made e b x y z => rw [ev_in h (x := x) (by simp), ev_in h (x := y) (by simp), ev_in h (x := z) (by simp)]
  case bin o x y => rw [ev_in h (x := x) (by simp), ev_in h (x := y) (by simp)]
  case binB o x y => rw [ev_in h (x := x) (by simp), ev_in h (x := y) (by simp)]
  case eqAgg o n x y => rw [ev_in h (x := x) (by simp), ev_in h (x := y) (by simp)]
  case build z ps =>
    have : (ps.map fun p => (p.1, p.2.1, ev t p.2.2)) = ps.map fun p => (p.1, p.2.1, ev t2 p.2.2) := List.map_congr_left fun p hp => by
      rw [ev_in h (x := p.2.2) (List.mem_map.2 ⟨p, hp, rfl⟩)]
    rw [this]
  case buildSlice e n z ps =>
    have : (ps.map fun p => (p.1, p.2.1, ev t p.2.2)) = ps.map fun p => (p.1, p.2.1, ev t2 p.2.2) := List.map_congr_left fun p hp => by
      rw [ev_in h (x := p.2.2) (List.mem_map.2 ⟨p, hp, rfl⟩)]
    rw [this]
  case store n x y => rw [ev_in h (x := x) (by simp), ev_in h (x := y) (by simp)]
  case indexAddr e x y => rw [ev_in h (x := x) (by simp), ev_in h (x := y) (by simp)]
  case indexArr n e x y => rw [ev_in h (x := x) (by simp), ev_in h (x := y) (by simp)]
  case index g n e x y => rw [ev_in h (x := x) (by simp), ev_in h (x := y) (by simp)]
  case indexStr x y => rw [ev_in h (x := x) (by simp), ev_in h (x := y) (by simp)]
  case makeSlice e b z x y => rw [ev_in h (x := x) (by simp), ev_in h (x := y) (by simp)]
  case append e b x y => rw [ev_in h (x := x) (by simp), ev_in h (x := y) (by simp)]
  case copy e x y => rw [ev_in h (x := x) (by simp), ev_in h (x := y) (by simp)]
  case slice e x lo hi => rw [ev_in h (x := x) (by simp), bound_in h 0 lo (by intro x hx; simp_all)]; cases ev t2 x <;> try rfl
                          simp only []; rw [bound_in h _ hi (by intro x hx; simp_all)]
  case sliceArr n e x lo hi => rw [ev_in h (x := x) (by simp), bound_in h 0 lo (by intro x hx; simp_all), bound_in h _ hi (by intro x hx; simp_all)]
  case makeFunc fn a b => rw [evs_in h (l0 := a) (by intro x hx; simp_all), evs_in h (l0 := b) (by intro x hx; simp_all)]
  case call flat f args ret s => rw [ev_in h (x := f) (by simp), evs_in h (l0 := args) (by intro x hx; simp_all)]
  case minmax mx xs => rw [evs_in h (l0 := xs) (by intro x hx; exact hx)]
  all_goals (first | rfl | rw [ev_same h])
theorem bind_map {X : Type} (o : Option X) (F : X → Option (Value × AMem)) (G : X → Option (Value × AMem)) (g : Value × AMem → Value × AMem) (h : ∀ x, F x = (G x).map g) : o.bind F = (o.bind G).map g := by
  cases o with
  | none => rfl
  | some x => exact h x
theorem na_map {X : Type} {f : (X → Res) → Res} (h : Na f) (k : X → Value) (M M2 : AMem) : (f fun x => some (k x, M)) = (f fun x => some (k x, M2)).map fun p => (p.1, M) := by
  obtain ⟨o, ho⟩ := h
  rw [ho, ho]
  cases o <;> rfl
theorem opV_pure (rec : Rec) (op : AOp) (t : List Value) (M M2 : AMem) (hp : kindOf op = .pure) : opV rec op t M = (opV rec op t M2).map fun p => (p.1, M) := by
  unfold opV
  cases op <;> simp only [kindOf] at hp <;> try (cases hp; done)
  case call flat f args ret single =>
    have hf : flat = true := by cases flat <;> simp_all
    subst hf
    simp only [opK, if_true]
    split
    · split
      · split
        · exact bind_map _ _ _ _ fun r => na_map (view_na ret single r.1) id M M2
        · rfl
      · rfl
      · rfl
    · rfl
  case pick c a b =>
    simp only [opK]
    cases ev t c <;> try rfl
    cases ev t a <;> cases ev t b <;> rfl
  case field agg off n x =>
    simp only [opK]
    cases ev t x <;> try rfl
    simp only []
    split
    · split <;> rfl
    · exact bind_map _ _ _ _ fun r => rfl
  case index agg len esz x i =>
    simp only [opK, idxK_eq]
    cases ev t x <;> try rfl
    cases ev t i <;> try rfl
    simp only []
    split
    · split
      · split <;> rfl
      · exact bind_map _ _ _ _ fun r => rfl
    · rfl
  case nilCheck x =>
    simp only [opK]
    cases ev t x <;> try rfl
    · rename_i p; cases p <;> rfl
    · rename_i f _ _; cases f <;> rfl
  case eqAgg lfs neg x y =>
    simp only [opK]
    cases ev t x <;> try rfl
    cases ev t y <;> try rfl
    exact bind_map _ _ _ _ fun r => rfl
  case slice esz x lo hi =>
    simp only [opK]
    cases ev t x <;> try rfl
    refine bind_map _ _ _ _ fun r => bind_map _ _ _ _ fun r => ?_
    split <;> rfl
  case sliceArr len esz x lo hi =>
    simp only [opK]
    cases ev t x <;> try rfl
    rename_i p
    cases p <;> try rfl
    refine bind_map _ _ _ _ fun r => bind_map _ _ _ _ fun r => ?_
    split <;> rfl
  case build zero parts => simp only [opK]; exact bind_map _ _ _ _ fun r => rfl
  case eqNil kind neg x => simp only [opK]; exact bind_map _ _ _ _ fun r => rfl
  case minmax mx xs => simp only [opK]; exact bind_map _ _ _ _ fun r => rfl
  case len x => simp only [opK]; exact bind_map _ _ _ _ fun r => rfl
  case extract x i =>
    simp only [opK]
    cases ev t x <;> try rfl
    exact bind_map _ _ _ _ fun r => rfl
  case indexStr x i =>
    simp only [opK]
    cases ev t x <;> try rfl
    cases ev t i <;> try rfl
    simp only []
    split
    · exact bind_map _ _ _ _ fun r => rfl
    · rfl
  case indexAddr esz x i =>
    simp only [opK]
    cases ev t x with
    | slice p n c =>
      cases ev t i <;> cases p <;> try rfl
      simp only []
      split <;> rfl
    | _ => rfl
  case indexArr len esz x i =>
    simp only [opK]
    cases ev t x with
    | pointer p =>
      cases ev t i <;> cases p <;> try rfl
      simp only []
      split <;> rfl
    | _ => rfl
  case binB neg x y =>
    simp only [opK]
    cases ev t x <;> cases ev t y <;> rfl
  case conv k x =>
    simp only [opK]
    cases ev t x <;> rfl
  case fieldAddr off x =>
    simp only [opK]
    cases ev t x <;> try rfl
    rename_i p
    cases p <;> rfl
  case slice0 x =>
    simp only [opK]
    cases ev t x <;> try rfl
    rename_i p _ _
    cases p <;> rfl
  case lenS x =>
    simp only [opK]
    cases ev t x <;> rfl
  case bin o x y =>
    simp only [opK]
    have := binK_na o (ev t x) (ev t y) (fun v => (v, M)) (fun p => some p)
    rw [binK_na o (ev t x) (ev t y) (fun v => (v, [])) (fun p => some (p.1, M))]
    rw [binK_na o (ev t x) (ev t y) (fun v => (v, [])) (fun p => some (p.1, M2))]
    cases (binK o (ev t x) (ev t y) fun v => some (v, ([] : AMem))) <;> rfl
  case un o x =>
    simp only [opK]
    rw [unK_na o (ev t x) (fun v => (v, [])) (fun p => some (p.1, M))]
    rw [unK_na o (ev t x) (fun v => (v, [])) (fun p => some (p.1, M2))]
    cases (unK o (ev t x) fun v => some (v, ([] : AMem))) <;> rfl
  case mv x => rfl
  case made esz bytes l c d =>
    simp only [opK]
    cases ev t l <;> try rfl
    cases ev t c <;> try rfl
    cases ev t d <;> try rfl
    rename_i p _ _
    cases p <;> try rfl
    simp only []
    split <;> rfl
  case makeFunc fn first cap => rfl
  case lenC n => rfl
theorem ldLeaves_congr {get get2 : Nat → Option Value} (h : ∀ j, get j = get2 j) (lfs : List Leaf) (i : Nat) (K : List Value → Res) : ldLeaves get lfs i K = ldLeaves get2 lfs i K := by
  have : get = get2 := funext h
  rw [this]
theorem opV_load (rec : Rec) (agg : Bool) (lfs : List Leaf) (a : Operand) (t : List Value) (M M2 : AMem) (hld : ∀ p, ev t a = .pointer (some p) → ∀ j, M.ld p.block j = M2.ld p.block j) :
    opV rec (.load agg lfs a) t M = (opV rec (.load agg lfs a) t M2).map fun p => (p.1, M) := by
  unfold opV
  simp only [opK]
  split
  · rename_i p hp
    have := hld p hp
    split
    · rw [ldLeaves_congr (get2 := fun j => M2.ld p.block (p.off + j)) (fun j => this _)]
      exact na_map (ldLeaves_na _ lfs 0) (fun vs => .agg vs.toArray) M M2
    · split
      · rename_i lf
        rw [this]
        exact na_map (ldLeaf_na lf _) id M M2
      · rfl
  · rfl
def OG (x y : Option AObj) : Prop := (x = some .dead → y = some .dead) ∧
  ∀ cs m, x = some (.cells cs m) → y = some .dead ∨ ∃ cs' m', y = some (.cells cs' m') ∧ m.ver ≤ m'.ver ∧ (m'.ver = m.ver → cs' = cs)
theorem OG.refl (x : Option AObj) : OG x x := ⟨id, fun cs m h => .inr ⟨cs, m, h, Nat.le_refl _, fun _ => rfl⟩⟩
theorem OG.none (y : Option AObj) : OG Option.none y := ⟨fun e => (by cases e), fun cs m e => (by cases e)⟩
theorem OG.trans {x y z : Option AObj} (h : OG x y) (k : OG y z) : OG x z := ⟨fun e => k.1 (h.1 e), fun cs m e => by
  rcases h.2 cs m e with h1 | ⟨cs', m', h1, h2, h3⟩
  · exact .inl (k.1 h1)
  · rcases k.2 cs' m' h1 with k1 | ⟨cs'', m'', k1, k2, k3⟩
    · exact .inl k1
    · exact .inr ⟨cs'', m'', k1, Nat.le_trans h2 k2, fun e => by
        have e1 : m''.ver = m'.ver := by omega
        rw [k3 e1, h3 (by omega)]⟩⟩
def Grow (A A' : AMem) : Prop := ∀ a : Nat, OG A[a]? A'[a]?
theorem Grow.refl (A : AMem) : Grow A A := fun a => .refl _
theorem Grow.trans {A A' A'' : AMem} (h : Grow A A') (k : Grow A' A'') : Grow A A'' := fun a => (h a).trans (k a)
theorem Grow.app (A : AMem) (l : AMem) : Grow A (A ++ l) := fun a => by
  by_cases h : a < A.length
  · rw [List.getElem?_append_left h]; exact .refl _
  · rw [List.getElem?_eq_none (Nat.le_of_not_lt h)]; exact .none _
theorem Grow.set (A : AMem) (n : Nat) (x : AObj) (h : OG A[n]? (some x)) : Grow A (A.set n x) := fun a => by
  rw [List.getElem?_set]
  split
  · rename_i e; subst e
    split
    · exact h
    · rename_i hn; rw [List.getElem?_eq_none (Nat.le_of_not_lt hn)]; exact .refl _
  · exact .refl _
theorem Grow.dead (A : AMem) (n : Nat) : Grow A (A.set n .dead) := .set A n _ ⟨fun _ => rfl, fun _ _ _ => .inl rfl⟩
theorem Grow.wr {A A' : AMem} {b o : Nat} {vs : List Value} (h : A.wr b o vs = some A') : Grow A A' := by
  unfold AMem.wr at h
  split at h
  · rename_i cs m hA
    split at h
    · cases h
      refine .set A b _ ⟨fun e => (by rw [hA] at e; cases e), fun cs0 m0 e => ?_⟩
      rw [hA] at e; cases e
      exact .inr ⟨_, _, rfl, Nat.le_succ _, fun e => absurd e (by simp)⟩
    · cases h
  · cases h
theorem mp_some {A : AMem} {k kv : IntKind} {r : Option Nat} {es : List (Int × Int)} (h : A.mp k kv r = some es) : ∃ b, r = some b ∧ A[b]? = some (.map k kv es) := by
  unfold AMem.mp at h
  split at h
  · rename_i b
    split at h
    · rename_i k' kv' es' hA
      split at h
      · rename_i hc
        obtain ⟨rfl, rfl⟩ := hc
        cases h
        exact ⟨b, rfl, hA⟩
      · cases h
    · cases h
  · cases h
theorem Grow.mput {A : AMem} {k kv : IntKind} {r : Option Nat} {es : List (Int × Int)} (h : A.mp k kv r = some es) (es2 : List (Int × Int)) : Grow A (A.mput k kv r es2) := by
  obtain ⟨b, rfl, hA⟩ := mp_some h
  exact .set A b _ ⟨fun e => (by rw [hA] at e; cases e), fun cs m e => (by rw [hA] at e; cases e)⟩
structure GrowRec (rec : Rec) : Prop where
  call : ∀ f args A r, rec.call f args A = some r → Grow A r.2
  round : ∀ l args A r, rec.round l args A = some r → Grow A r.2
  loop : ∀ b K t A r, rec.loop b K t A = some r → ∃ e t' A', K e t' A' = some r ∧ Grow A A'
section
variable {rec : Rec}
theorem newK_na (op : AOp) (t : List Value) : ∃ o : Option ((Nat → Value) × AObj), ∀ K, newK op t K = o.bind fun p => K p.1 p.2 := by
  cases op with
  | buildSlice esz len zero parts =>
    exact ⟨(fillL zero (parts.map fun p => (p.1, p.2.1, ev t p.2.2))).map fun cs => (fun a => .slice (some ⟨a, 0, none⟩) len esz, .cells cs ⟨false, 0⟩), fun K => by
      simp only [newK]; cases fillL zero _ <;> rfl⟩
  | alloc zero => exact ⟨some (fun a => .pointer (some ⟨a, 0, none⟩), .cells zero ⟨false, 0⟩), fun K => rfl⟩
  | box x =>
    by_cases h : (cellsL (ev t x)).all leafV = true
    · exact ⟨some (fun a => .pointer (some ⟨a, 0, none⟩), .cells (cellsL (ev t x)) ⟨false, 0⟩), fun K => by simp only [newK]; rw [if_pos h]; rfl⟩
    · exact ⟨none, fun K => by simp only [newK]; rw [if_neg h]; rfl⟩
  | makeSlice esz bytes zero l c =>
    simp only [newK]
    cases ev t l with
    | int k n =>
      cases ev t c with
      | int k' m =>
        by_cases h : 0 ≤ n ∧ n ≤ m ∧ m ≤ 140737488355328 ∧ m * bytes ≤ 140737488355328
        · exact ⟨some (fun a => .slice (some ⟨a, 0, none⟩) n.toNat esz, .cells (replL n.toNat zero) ⟨false, 0⟩), fun K => by simp only []; rw [if_pos h]; rfl⟩
        · exact ⟨none, fun K => by simp only []; rw [if_neg h]; rfl⟩
      | _ => exact ⟨none, fun K => rfl⟩
    | _ => exact ⟨none, fun K => rfl⟩
  | _ => exact ⟨none, fun K => rfl⟩
theorem opV_grow (hg : GrowRec rec) {op : AOp} {t : List Value} {M : AMem} {r : Value × AMem} (h : opV rec op t M = some r) : Grow M r.2 := by
  by_cases hp : kindOf op = .pure
  · rw [opV_pure rec op t M M hp] at h
    obtain ⟨p, _, h2⟩ := msi.1 h
    subst h2; exact .refl _
  · unfold opV at h
    have newc : ∀ (o : Option ((Nat → Value) × AObj)), (o.bind fun p => some (p.1 M.length, M ++ [p.2])) = some r → Grow M r.2 := fun o ho => by
      obtain ⟨p, _, h2⟩ := bsi.1 ho
      cases h2; exact .app _ _
    cases op <;> try (exact absurd rfl hp; done)
    case load agg lfs a =>
      have := opV_load rec agg lfs a t M M (fun _ _ _ => rfl)
      unfold opV at this
      rw [this] at h
      obtain ⟨p, _, h2⟩ := msi.1 h
      subst h2; exact .refl _
    case buildSlice e n z ps =>
      obtain ⟨o, ho⟩ := newK_na (.buildSlice e n z ps) t
      simp only [opK, ho] at h; exact newc o h
    case alloc z =>
      obtain ⟨o, ho⟩ := newK_na (.alloc z) t
      simp only [opK, ho] at h; exact newc o h
    case box x =>
      obtain ⟨o, ho⟩ := newK_na (.box x) t
      simp only [opK, ho] at h; exact newc o h
    case makeSlice e b z l c =>
      obtain ⟨o, ho⟩ := newK_na (.makeSlice e b z l c) t
      simp only [opK, ho] at h; exact newc o h
    case store n a x =>
      simp only [opK] at h
      split at h
      · split at h
        · obtain ⟨M2, h1, h2⟩ := bsi.1 h
          cases h2; exact .wr h1
        · cases h
      · cases h
    case append e b s x =>
      simp only [opK] at h
      split at h
      · obtain ⟨m, h1, h2⟩ := bsi.1 h
        obtain ⟨new, h3, h4⟩ := bsi.1 h2
        unfold appendK at h4
        split at h4
        · cases h4; exact .refl _
        · split at h4
          · split at h4
            · split at h4
              · cases h4; exact .app _ _
              · cases h4
            · split at h4
              · split at h4
                · cases h4; exact .app _ _
                · cases h4
              · split at h4
                · split at h4
                  · cases h4; exact (Grow.dead _ _).trans (.app _ _)
                  · cases h4
                · cases h4
          · cases h4
      · cases h
    case map kd k kv m i v =>
      simp only [opK, mapK] at h
      cases kd with
      | make => cases h; exact .app _ _
      | look ok =>
        obtain ⟨q, _, h1⟩ := bsi.1 h
        obtain ⟨n, _, h2⟩ := bsi.1 h1
        obtain ⟨es, _, h3⟩ := bsi.1 h2
        cases ok <;> (cases h3; exact .refl _)
      | upd =>
        obtain ⟨q, _, h1⟩ := bsi.1 h
        obtain ⟨n, _, h2⟩ := bsi.1 h1
        obtain ⟨x, _, h3⟩ := bsi.1 h2
        obtain ⟨es, h4, h5⟩ := bsi.1 h3
        cases h5; exact .mput h4 _
      | del =>
        obtain ⟨q, _, h1⟩ := bsi.1 h
        obtain ⟨n, _, h2⟩ := bsi.1 h1
        obtain ⟨es, h4, h5⟩ := bsi.1 h2
        cases h5; exact .mput h4 _
    case copy e d s =>
      simp only [opK] at h
      split at h
      · obtain ⟨m, h1, h2⟩ := bsi.1 h
        obtain ⟨new, h3, h4⟩ := bsi.1 h2
        unfold copyK at h4
        split at h4
        · cases h4; exact .refl _
        · split at h4
          · obtain ⟨M2, h5, h6⟩ := bsi.1 h4
            cases h6; exact .wr h5
          · cases h4
      · cases h
    case call flat f args ret single =>
      have hf : flat = false := by cases flat <;> simp_all [kindOf]
      subst hf
      simp only [opK] at h
      split at h
      · split at h
        · simp only [Bool.false_eq_true, if_false] at h
          obtain ⟨q, h1, h2⟩ := bsi.1 h
          obtain ⟨o, ho⟩ := view_na ret single q.1
          rw [ho] at h2
          obtain ⟨v, _, h3⟩ := bsi.1 h2
          have := hg.call _ _ _ _ h1
          cases h3; exact this
        · simp only [Bool.false_eq_true, if_false] at h
          obtain ⟨q, h1, h2⟩ := bsi.1 h
          obtain ⟨o, ho⟩ := view_na ret single q.1
          rw [ho] at h2
          obtain ⟨v, _, h3⟩ := bsi.1 h2
          have := hg.round _ _ _ _ h1
          cases h3; exact this
        · cases h
      · cases h
def operR (rec : Rec) (o : AOper) (t : List Value) (M : AMem) : Res :=
  match o.guard with
  | none => opV rec o.op t M
  | some (g, want) => match t.getD g undef with
    | .bool b => if b = want then opV rec o.op t M else some (undef, M)
    | .tuple vs => if vs.toList.isEmpty then some (undef, M) else none
    | _ => none
theorem set_getD {t : List Value} {g : Nat} {v : Value} (h : t.getD g undef = v) (hv : v ≠ undef) : t.set g v = t := by
  by_cases hg : g < t.length
  · have : t[g] = v := by simpa [List.getD, hg] using h
    rw [← this]; exact List.set_getElem_self hg
  · exfalso
    apply hv
    rw [← h]; simp [List.getD, List.getElem?_eq_none (Nat.le_of_not_lt hg)]
theorem operK_na (rec : Rec) (o : AOper) (t : List Value) (M : AMem) (K : List Value → AMem → Res) : operK rec o t M K = (operR rec o t M).bind fun p => K (setT t o.dst p.1) p.2 := by
  obtain ⟨dst, op, guard⟩ := o
  cases guard with
  | none => simp only [operK, setTF_eq]; exact opK_na rec op t M (fun v M => K (setT t dst v) M)
  | some gw =>
    obtain ⟨g, want⟩ := gw
    simp only [operK, operR, setTF_eq, setF_eq]
    cases hb : t.getD g undef with
    | bool b =>
      have hset : t.set g (.bool b) = t := set_getD hb (by simp [undef])
      cases b with
      | true =>
        simp only [if_true, hset]
        cases want with
        | true => simp only [if_true]; exact opK_na rec op t M _
        | false => rfl
      | false =>
        simp only [Bool.false_eq_true, if_false, hset]
        cases want with
        | true => rfl
        | false => simp only [if_true, Bool.false_eq_true, if_false]; exact opK_na rec op t M _
    | tuple vs => simp only []; split <;> rfl
    | _ => rfl
theorem operR_grow (hg : GrowRec rec) {o : AOper} {t : List Value} {M : AMem} {r : Value × AMem} (h : operR rec o t M = some r) : Grow M r.2 := by
  unfold operR at h
  split at h
  · exact opV_grow hg h
  · split at h
    · split at h
      · exact opV_grow hg h
      · cases h; exact .refl _
    · split at h
      · cases h; exact .refl _
      · cases h
    · cases h
theorem operK_grow (hg : GrowRec rec) {o : AOper} {t : List Value} {M : AMem} {K : List Value → AMem → Res} {r : Value × AMem} (h : operK rec o t M K = some r) :
    ∃ t' M', K t' M' = some r ∧ Grow M M' := by
  rw [operK_na] at h
  obtain ⟨p, h1, h2⟩ := bsi.1 h
  exact ⟨_, _, h2, operR_grow hg h1⟩
theorem opsK_grow (hg : GrowRec rec) : ∀ (l : List AOper) {t : List Value} {M : AMem} {K : List Value → AMem → Res} {r : Value × AMem}, opsK rec l t M K = some r →
    ∃ t' M', K t' M' = some r ∧ Grow M M'
  | [], t, M, K, r, h => ⟨t, M, h, .refl _⟩
  | o :: l, t, M, K, r, h => by
    obtain ⟨t1, M1, h1, g1⟩ := operK_grow hg h
    obtain ⟨t2, M2, h2, g2⟩ := opsK_grow hg l h1
    exact ⟨t2, M2, h2, g1.trans g2⟩
def GrowN (n : Nat) (A A' : AMem) : Prop := ∀ a : Nat, a < n → OG A[a]? A'[a]?
theorem drawK_grow (hg : GrowRec rec) (pairs : List (Nat × Nat)) (base : Nat) : ∀ (l : List (AOper × Option Nat)) (i : Nat) (lds : List (Nat × Nat)) (efs : List (Nat × AMem × AMem)) {t : List Value} {M : AMem}
    {K : List Value → AMem → Res} {r : Value × AMem}, drawK rec pairs base l i lds efs t M K = some r → ∃ t' M', K t' M' = some r ∧ GrowN base M M'
  | [], i, lds, efs, t, M, K, r, h => by
    simp only [drawK] at h
    split at h
    · exact ⟨t, M, h, fun a _ => .refl _⟩
    · cases h
  | (o, none) :: l, i, lds, efs, t, M, K, r, h => by
    simp only [drawK] at h
    obtain ⟨t1, M1, h1, g1⟩ := operK_grow hg h
    obtain ⟨t2, M2, h2, g2⟩ := drawK_grow hg pairs base l _ _ _ h1
    exact ⟨t2, M2, h2, fun a ha => (g1 a).trans (g2 a ha)⟩
  | (o, some j) :: l, i, lds, efs, t, M, K, r, h => by
    simp only [drawK] at h
    unfold fillK at h
    split at h
    · obtain ⟨no, hno⟩ := newK_na o.op t
      simp only [setTF_eq] at h
      rw [hno] at h
      obtain ⟨p, h1, h2⟩ := bsi.1 h
      obtain ⟨t2, M2, h3, g2⟩ := drawK_grow hg pairs base l _ _ _ h2
      refine ⟨t2, M2, h3, fun a ha => ?_⟩
      have := g2 a ha
      rw [List.getElem?_set, if_neg (by omega)] at this
      exact this
    · cases h
theorem code_grow (hg : GrowRec rec) : ∀ (a : ACode) (K : KT) (t : List Value) (A : AMem) (r : Value × AMem), code rec a K t A = some r → ∃ e t' A', K e t' A' = some r ∧ Grow A A' := by
  intro a
  induction a with
  | skip => intro K t A r h; exact ⟨_, _, _, h, .refl _⟩
  | ops l =>
    intro K t A r h
    obtain ⟨t', M', h1, g⟩ := opsK_grow hg l h
    exact ⟨_, _, _, h1, g⟩
  | draw first nres l chk =>
    intro K t A r h
    obtain ⟨t1, M1, h1, g1⟩ := opsK_grow hg first h
    obtain ⟨t2, M2, h2, g2⟩ := drawK_grow hg chk M1.length l 0 [] [] h1
    refine ⟨_, _, _, h2, g1.trans fun a => ?_⟩
    by_cases ha : a < M1.length
    · have := g2 a ha
      rwa [addRooms_eq, List.getElem?_append_left ha] at this
    · rw [List.getElem?_eq_none (Nat.le_of_not_lt ha)]; exact .none _
  | seq a b iha ihb =>
    intro K t A r h
    obtain ⟨e, t1, A1, h1, g1⟩ := iha _ _ _ _ h
    cases e with
    | normal =>
      obtain ⟨e2, t2, A2, h2, g2⟩ := ihb _ _ _ _ h1
      exact ⟨e2, t2, A2, h2, g1.trans g2⟩
    | exit i => exact ⟨_, _, _, h1, g1⟩
    | ret => exact ⟨_, _, _, h1, g1⟩
  | cond c a b iha ihb =>
    intro K t A r h
    simp only [code] at h
    split at h
    · split at h
      · exact iha _ _ _ _ h
      · exact ihb _ _ _ _ h
    · cases h
  | block id b ih =>
    intro K t A r h
    obtain ⟨e, t1, A1, h1, g1⟩ := ih _ _ _ _ h
    cases e with
    | normal => exact ⟨_, _, _, h1, g1⟩
    | exit i =>
      simp only [blockK] at h1
      split at h1
      · exact ⟨_, _, _, h1, g1⟩
      · exact ⟨_, _, _, h1, g1⟩
    | ret => exact ⟨_, _, _, h1, g1⟩
  | loop b ih => intro K t A r h; exact hg.loop b K t A r h
  | rangeFunc f ps a b _ _ =>
    intro K t A r h
    simp only [code] at h
    split at h
    · split at h
      · obtain ⟨q, h1, h2⟩ := bsi.1 h
        have g1 := (Grow.app A _).trans (hg.call _ _ _ _ h1)
        split at h2
        · split at h2
          · cases h2
          · split at h2
            · exact ⟨_, _, _, h2, g1.trans (.dead _ _)⟩
            · exact ⟨_, _, _, h2, g1.trans (.dead _ _)⟩
        · cases h2
      · cases h
    · cases h
  | scope l b c ihb ihc =>
    intro K t A r h
    obtain ⟨e, t1, A1, h1, g1⟩ := ihb _ _ _ _ h
    cases e with
    | normal => exact ⟨_, _, _, h1, g1⟩
    | exit i =>
      simp only [scopeK] at h1
      split at h1
      · obtain ⟨e2, t2, A2, h2, g2⟩ := ihc _ _ _ _ h1
        cases e2 with
        | normal => exact ⟨_, _, _, h2, g1.trans g2⟩
        | exit j =>
          simp only [noK] at h2
          split at h2
          · cases h2
          · exact ⟨_, _, _, h2, g1.trans g2⟩
        | ret => exact ⟨_, _, _, h2, g1.trans g2⟩
      · exact ⟨_, _, _, h1, g1⟩
    | ret => exact ⟨_, _, _, h1, g1⟩
  | exit id => intro K t A r h; exact ⟨_, _, _, h, .refl _⟩
  | ret => intro K t A r h; exact ⟨_, _, _, h, .refl _⟩
  | clear ts a ih => intro K t A r h; exact ih K (clearT t ts) A r (by simpa only [code, clearF_eq] using h)
  | post a ts ih =>
    intro K t A r h
    obtain ⟨e, t1, A1, h1, g1⟩ := ih _ _ _ _ h
    cases e with
    | normal => exact ⟨.normal, clearT t1 ts, A1, by simpa only [postK, clearF_eq] using h1, g1⟩
    | exit i => exact ⟨_, _, _, h1, g1⟩
    | ret => exact ⟨_, _, _, h1, g1⟩
theorem resK_na (t : List Value) (M : AMem) : ∀ (l : List ARes), Na (resK t M l)
  | [] => ⟨some [], fun K => rfl⟩
  | .tmp i :: l => by
    obtain ⟨o, ho⟩ := resK_na t M l
    exact ⟨o.map fun vs => t.getD i undef :: vs, fun K => by simp only [resK, ho]; cases o <;> rfl⟩
  | .cell agg lfs a :: l => by
    obtain ⟨o, ho⟩ := resK_na t M l
    simp only [resK]
    generalize t.getD a undef = v
    cases v with
    | pointer p =>
      cases p with
      | none => exact ⟨none, fun K => rfl⟩
      | some p =>
        cases agg with
        | true =>
          obtain ⟨o1, h1⟩ := ldLeaves_na (fun j => M.ld p.block (p.off + j)) lfs 0
          exact ⟨o1.bind fun cs => o.map fun vs => .agg cs.toArray :: vs, fun K => by simp only [if_true, h1, ho]; cases o1 <;> cases o <;> rfl⟩
        | false =>
          match lfs with
          | [] => exact ⟨none, fun K => rfl⟩
          | _ :: _ :: _ => exact ⟨none, fun K => rfl⟩
          | [lf] =>
            obtain ⟨o1, h1⟩ := ldLeaf_na lf (M.ld p.block p.off)
            exact ⟨o1.bind fun v => o.map fun vs => v :: vs, fun K => by simp only [Bool.false_eq_true, if_false, h1, ho]; cases o1 <;> cases o <;> rfl⟩
    | _ => exact ⟨none, fun K => rfl⟩
theorem retK_mem {res : List ARes} {e : AExit} {t : List Value} {A : AMem} {r : Value × AMem} (h : retK res e t A = some r) : r.2 = A := by
  obtain ⟨o, ho⟩ := resK_na t A res
  cases e with
  | exit i => cases h
  | _ =>
    simp only [retK, ho] at h
    obtain ⟨vs, _, h2⟩ := bsi.1 h
    cases h2; rfl
theorem roundK_grow {l : Nat} {e : AExit} {t : List Value} {A : AMem} {r : Value × AMem} (h : roundK l e t A = some r) : Grow A r.2 := by
  unfold roundK at h
  split at h
  · rename_i r1 hr1
    have : ∀ x, Grow A (A.set l (.loop x)) := fun x => .set A l _ ⟨fun e => (by rw [hr1] at e; cases e), fun cs m e => (by rw [hr1] at e; cases e)⟩
    split at h <;> (cases h; exact this _)
  · cases h
theorem grow_run (E : Env) (hx : ∀ g h, E.ext g = some h → ∀ args A r, h args A = some r → Grow A r.2) : ∀ n, GrowRec (run E n)
  | 0 => ⟨fun _ _ _ _ h => (by cases h), fun _ _ _ _ h => (by cases h), fun _ _ _ _ _ h => (by cases h)⟩
  | n + 1 => by
    have ih := grow_run E hx n
    refine ⟨fun f args A r h => ?_, fun l args A r h => ?_, fun b K t A r h => ?_⟩
    · have h' : (match E.ext f with
          | some h => h args A
          | none => match E.fn f with
            | some a => enterF (run E n) a args A
            | none => none) = some r := h
      split at h'
      · rename_i hh he
        exact hx f hh he args A r h'
      · split at h'
        · unfold enterF at h'
          split at h'
          · obtain ⟨e, t', A', h1, g⟩ := code_grow ih _ _ _ _ _ h'
            rw [retK_mem h1]; exact g
          · cases h'
        · cases h'
    · have h' : roundF (run E n) l args A = some r := h
      unfold roundF at h'
      split at h'
      · split at h'
        · obtain ⟨e, t', A', h1, g⟩ := code_grow ih _ _ _ _ _ h'
          cases e with
          | normal =>
            simp only at h1
            split at h1
            · rename_i r1 hr1
              split at h1
              · obtain ⟨e2, t2, A2, h2, g2⟩ := code_grow ih _ _ _ _ _ h1
                refine (g.trans (Grow.set A' l _ ⟨fun e => (by rw [hr1] at e; cases e), fun cs m e => (by rw [hr1] at e; cases e)⟩)).trans (g2.trans (roundK_grow h2))
              · cases h1
            · cases h1
          | exit i => cases h1
          | ret => cases h1
        · cases h'
      · cases h'
    · have h' : code (run E n) b (loopK (run E n) b K) t A = some r := h
      obtain ⟨e, t1, A1, h1, g1⟩ := code_grow ih _ _ _ _ _ h'
      cases e with
      | normal =>
        obtain ⟨e2, t2, A2, h2, g2⟩ := ih.loop _ _ _ _ _ h1
        exact ⟨e2, t2, A2, h2, g1.trans g2⟩
      | exit i => exact ⟨_, _, _, h1, g1⟩
      | ret => exact ⟨_, _, _, h1, g1⟩
end
def NaX (f : KT → Res) : Prop := ∀ K r, f K = some r → ∃ e t' M', K e t' M' = some r ∧ ∀ K', f K' = K' e t' M'
structure NaRec (rec : Rec) : Prop where
  loop : ∀ b t M, NaX fun K => rec.loop b K t M
section
variable {rec : Rec}
theorem operK_nx {o : AOper} {t : List Value} {M : AMem} {K : List Value → AMem → Res} {r : Value × AMem} (h : operK rec o t M K = some r) :
    ∃ t' M', K t' M' = some r ∧ ∀ K', operK rec o t M K' = K' t' M' := by
  rw [operK_na] at h
  obtain ⟨p, h1, h2⟩ := bsi.1 h
  exact ⟨_, _, h2, fun K' => by rw [operK_na, h1]; rfl⟩
theorem opsK_nx : ∀ (l : List AOper) {t : List Value} {M : AMem} {K : List Value → AMem → Res} {r : Value × AMem}, opsK rec l t M K = some r →
    ∃ t' M', K t' M' = some r ∧ ∀ K', opsK rec l t M K' = K' t' M'
  | [], t, M, K, r, h => ⟨t, M, h, fun K' => rfl⟩
  | o :: l, t, M, K, r, h => by
    obtain ⟨t1, M1, h1, g1⟩ := operK_nx h
    obtain ⟨t2, M2, h2, g2⟩ := opsK_nx l h1
    exact ⟨t2, M2, h2, fun K' => by simp only [opsK, g1, g2]⟩
theorem fillK_nx {o : AOper} {a : Nat} {t : List Value} {M : AMem} {K : List Value → AMem → Res} {r : Value × AMem} (h : fillK o a t M K = some r) :
    ∃ t' M', K t' M' = some r ∧ ∀ K', fillK o a t M K' = K' t' M' := by
  unfold fillK at h
  obtain ⟨no, hno⟩ := newK_na o.op t
  split at h
  · rename_i hg
    simp only [setTF_eq] at h
    rw [hno] at h
    obtain ⟨p, h1, h2⟩ := bsi.1 h
    exact ⟨_, _, h2, fun K' => by unfold fillK; rw [hg]; simp only [setTF_eq, hno, h1]; rfl⟩
  · cases h
theorem drawK_nx (pairs : List (Nat × Nat)) (base : Nat) : ∀ (l : List (AOper × Option Nat)) (i : Nat) (lds : List (Nat × Nat)) (efs : List (Nat × AMem × AMem)) {t : List Value} {M : AMem}
    {K : List Value → AMem → Res} {r : Value × AMem}, drawK rec pairs base l i lds efs t M K = some r → ∃ t' M', K t' M' = some r ∧ ∀ K', drawK rec pairs base l i lds efs t M K' = K' t' M'
  | [], i, lds, efs, t, M, K, r, h => by
    simp only [drawK] at h
    split at h
    · rename_i hc
      exact ⟨t, M, h, fun K' => by simp only [drawK, hc, if_true]⟩
    · cases h
  | (o, none) :: l, i, lds, efs, t, M, K, r, h => by
    simp only [drawK] at h
    obtain ⟨t1, M1, h1, g1⟩ := operK_nx h
    obtain ⟨t2, M2, h2, g2⟩ := drawK_nx pairs base l _ _ _ h1
    exact ⟨t2, M2, h2, fun K' => by simp only [drawK]; rw [g1]; exact g2 K'⟩
  | (o, some j) :: l, i, lds, efs, t, M, K, r, h => by
    simp only [drawK] at h
    obtain ⟨t1, M1, h1, g1⟩ := fillK_nx h
    obtain ⟨t2, M2, h2, g2⟩ := drawK_nx pairs base l _ _ _ h1
    exact ⟨t2, M2, h2, fun K' => by simp only [drawK]; rw [g1]; exact g2 K'⟩
theorem code_nx (hn : NaRec rec) : ∀ (a : ACode) (t : List Value) (A : AMem), NaX fun K => code rec a K t A := by
  intro a
  induction a with
  | skip => intro t A K r h; exact ⟨_, _, _, h, fun K' => rfl⟩
  | ops l =>
    intro t A K r h
    obtain ⟨t', M', h1, g⟩ := opsK_nx l h
    exact ⟨_, _, _, h1, fun K' => g _⟩
  | draw first nres l chk =>
    intro t A K r h
    obtain ⟨t1, M1, h1, g1⟩ := opsK_nx first h
    obtain ⟨t2, M2, h2, g2⟩ := drawK_nx chk M1.length l 0 [] [] h1
    exact ⟨_, _, _, h2, fun K' => by simp only [code]; rw [g1]; exact g2 _⟩
  | seq a b iha ihb =>
    intro t A K r h
    obtain ⟨e, t1, A1, h1, g1⟩ := iha _ _ _ _ h
    cases e with
    | normal =>
      obtain ⟨e2, t2, A2, h2, g2⟩ := ihb _ _ _ _ h1
      exact ⟨e2, t2, A2, h2, fun K' => (g1 _).trans (g2 K')⟩
    | exit i => exact ⟨_, _, _, h1, fun K' => g1 _⟩
    | ret => exact ⟨_, _, _, h1, fun K' => g1 _⟩
  | cond c a b iha ihb =>
    intro t A K r h
    simp only [code] at h ⊢
    split at h
    · rename_i q hq
      split at h
      · rename_i hqt
        obtain ⟨e, t1, A1, h1, g1⟩ := iha _ _ _ _ h
        exact ⟨e, t1, A1, h1, fun K' => by simp only [hqt, if_true]; exact g1 K'⟩
      · rename_i hqf
        obtain ⟨e, t1, A1, h1, g1⟩ := ihb _ _ _ _ h
        exact ⟨e, t1, A1, h1, fun K' => by simp only [hqf, if_false]; exact g1 K'⟩
    · cases h
  | block id b ih =>
    intro t A K r h
    obtain ⟨e, t1, A1, h1, g1⟩ := ih _ _ _ _ h
    cases e with
    | normal => exact ⟨_, _, _, h1, fun K' => g1 _⟩
    | exit i =>
      simp only [blockK] at h1
      split at h1
      · rename_i he
        exact ⟨_, _, _, h1, fun K' => (g1 _).trans (by simp only [blockK, he, if_true])⟩
      · rename_i he
        exact ⟨_, _, _, h1, fun K' => (g1 _).trans (by simp only [blockK, he, if_false])⟩
    | ret => exact ⟨_, _, _, h1, fun K' => g1 _⟩
  | loop b ih => intro t A K r h; exact hn.loop b t A K r h
  | rangeFunc f ps a b _ _ =>
    intro t A K r h
    simp only [code] at h ⊢
    split at h
    · rename_i fn first cap hf
      split at h
      · rename_i g
        obtain ⟨q, h1, h2⟩ := bsi.1 h
        split at h2
        · rename_i lr hl
          split at h2
          · cases h2
          · rename_i hb
            split at h2
            · rename_i hp
              exact ⟨_, _, _, h2, fun K' => by simp only [h1, Option.bind_some, hl, hb, if_false, hp]⟩
            · rename_i e hp
              exact ⟨_, _, _, h2, fun K' => by simp only [h1, Option.bind_some, hl, hb, if_false, hp]⟩
        · cases h2
      · cases h
    · cases h
  | scope l b c ihb ihc =>
    intro t A K r h
    obtain ⟨e, t1, A1, h1, g1⟩ := ihb _ _ _ _ h
    cases e with
    | normal => exact ⟨_, _, _, h1, fun K' => g1 (scopeK l (code rec c (noK l K')) K')⟩
    | exit i =>
      simp only [scopeK] at h1
      split at h1
      · rename_i he
        obtain ⟨e2, t2, A2, h2, g2⟩ := ihc _ _ _ _ h1
        have go : ∀ K', code rec (.scope l b c) K' t A = code rec c (noK l K') t1 A1 := fun K' => (g1 (scopeK l (code rec c (noK l K')) K')).trans (by simp only [scopeK, he, if_true])
        cases e2 with
        | normal => exact ⟨_, _, _, h2, fun K' => (go K').trans (g2 (noK l K'))⟩
        | exit j =>
          simp only [noK] at h2
          split at h2
          · cases h2
          · rename_i hn
            exact ⟨_, _, _, h2, fun K' => ((go K').trans (g2 (noK l K'))).trans (by simp only [noK, hn, if_false])⟩
        | ret => exact ⟨_, _, _, h2, fun K' => (go K').trans (g2 (noK l K'))⟩
      · rename_i he
        exact ⟨_, _, _, h1, fun K' => (g1 (scopeK l (code rec c (noK l K')) K')).trans (by simp only [scopeK, he, if_false])⟩
    | ret => exact ⟨_, _, _, h1, fun K' => g1 (scopeK l (code rec c (noK l K')) K')⟩
  | exit id => intro t A K r h; exact ⟨_, _, _, h, fun K' => rfl⟩
  | ret => intro t A K r h; exact ⟨_, _, _, h, fun K' => rfl⟩
  | clear ts a ih =>
    intro t A K r h
    obtain ⟨e, t1, A1, h1, g1⟩ := ih (clearT t ts) A K r (by simpa only [code, clearF_eq] using h)
    exact ⟨e, t1, A1, h1, fun K' => by simp only [code, clearF_eq]; exact g1 K'⟩
  | post a ts ih =>
    intro t A K r h
    obtain ⟨e, t1, A1, h1, g1⟩ := ih _ _ _ _ h
    cases e with
    | normal => exact ⟨.normal, clearT t1 ts, A1, by simpa only [postK, clearF_eq] using h1, fun K' => (g1 (postK ts K')).trans (by simp only [postK, clearF_eq])⟩
    | exit i => exact ⟨_, _, _, h1, fun K' => g1 (postK ts K')⟩
    | ret => exact ⟨_, _, _, h1, fun K' => g1 (postK ts K')⟩
theorem run_nx (E : Env) : ∀ n, NaRec (run E n)
  | 0 => ⟨fun b t M K r h => (by cases h)⟩
  | n + 1 => ⟨fun b t M K r h => by
      have ih := run_nx E n
      have h' : code (run E n) b (loopK (run E n) b K) t M = some r := h
      obtain ⟨e, t1, A1, h1, g1⟩ := code_nx ih _ _ _ _ _ h'
      cases e with
      | normal =>
        obtain ⟨e2, t2, A2, h2, g2⟩ := ih.loop _ _ _ _ _ h1
        exact ⟨e2, t2, A2, h2, fun K' => (g1 (loopK (run E n) b K')).trans (g2 K')⟩
      | exit i => exact ⟨_, _, _, h1, fun K' => g1 (loopK (run E n) b K')⟩
      | ret => exact ⟨_, _, _, h1, fun K' => g1 (loopK (run E n) b K')⟩⟩
structure LeRec (r1 r2 : Rec) : Prop where
  call : ∀ f args A r, r1.call f args A = some r → r2.call f args A = some r
  round : ∀ l args A r, r1.round l args A = some r → r2.round l args A = some r
  loop : ∀ b K t A r, r1.loop b K t A = some r → r2.loop b K t A = some r
theorem LeRec.refl (r1 : Rec) : LeRec r1 r1 := ⟨fun _ _ _ _ h => h, fun _ _ _ _ h => h, fun _ _ _ _ _ h => h⟩
theorem LeRec.trans {r1 r2 r3 : Rec} (h : LeRec r1 r2) (k : LeRec r2 r3) : LeRec r1 r3 :=
  ⟨fun _ _ _ _ e => k.call _ _ _ _ (h.call _ _ _ _ e), fun _ _ _ _ e => k.round _ _ _ _ (h.round _ _ _ _ e), fun _ _ _ _ _ e => k.loop _ _ _ _ _ (h.loop _ _ _ _ _ e)⟩
variable {r1 r2 : Rec}
theorem opV_le (hle : LeRec r1 r2) {op : AOp} {t : List Value} {M : AMem} {r : Value × AMem} (h : opV r1 op t M = some r) : opV r2 op t M = some r := by
  unfold opV at h ⊢
  cases op <;> try exact h
  case call flat f args ret single =>
    simp only [opK] at h ⊢
    split at h
    · split at h
      · split at h
        · rename_i hf
          rw [if_pos hf]
          split at h
          · rename_i hc
            rw [if_pos hc]
            obtain ⟨q, h1, h2⟩ := bsi.1 h
            rw [hle.call _ _ _ _ h1]; exact h2
          · cases h
        · rename_i hf
          rw [if_neg hf]
          obtain ⟨q, h1, h2⟩ := bsi.1 h
          rw [hle.call _ _ _ _ h1]; exact h2
      · split at h
        · cases h
        · rename_i hf
          simp only [hf, Bool.false_eq_true, if_false]
          obtain ⟨q, h1, h2⟩ := bsi.1 h
          rw [hle.round _ _ _ _ h1]; exact h2
      · cases h
    · cases h
theorem operR_le (hle : LeRec r1 r2) {o : AOper} {t : List Value} {M : AMem} {r : Value × AMem} (h : operR r1 o t M = some r) : operR r2 o t M = some r := by
  unfold operR at h ⊢
  split at h
  · exact opV_le hle h
  · split at h
    · split at h
      · rename_i hb; rw [if_pos hb]; exact opV_le hle h
      · rename_i hb; rw [if_neg hb]; exact h
    · exact h
    · cases h
theorem operK_le (hle : LeRec r1 r2) {o : AOper} {t : List Value} {M : AMem} {K : List Value → AMem → Res} {r : Value × AMem} (h : operK r1 o t M K = some r) : operK r2 o t M K = some r := by
  rw [operK_na] at h ⊢
  obtain ⟨p, h1, h2⟩ := bsi.1 h
  rw [operR_le hle h1]; exact h2
theorem opsK_le (hle : LeRec r1 r2) : ∀ (l : List AOper) {t : List Value} {M : AMem} {K : List Value → AMem → Res} {r : Value × AMem}, opsK r1 l t M K = some r → opsK r2 l t M K = some r
  | [], t, M, K, r, h => h
  | o :: l, t, M, K, r, h => by
    obtain ⟨t1, M1, h1, g1⟩ := operK_nx h
    have := operK_le hle h
    simp only [opsK]
    have k : operK r2 o t M (fun t M => opsK r1 l t M K) = some r := this
    obtain ⟨t2, M2, h2, g2⟩ := operK_nx k
    rw [g2]; exact opsK_le hle l h2
theorem drawK_le (hle : LeRec r1 r2) (pairs : List (Nat × Nat)) (base : Nat) : ∀ (l : List (AOper × Option Nat)) (i : Nat) (lds : List (Nat × Nat)) (efs : List (Nat × AMem × AMem)) {t : List Value} {M : AMem}
    {K : List Value → AMem → Res} {r : Value × AMem}, drawK r1 pairs base l i lds efs t M K = some r → drawK r2 pairs base l i lds efs t M K = some r
  | [], i, lds, efs, t, M, K, r, h => h
  | (o, none) :: l, i, lds, efs, t, M, K, r, h => by
    simp only [drawK] at h ⊢
    have k := operK_le hle h
    obtain ⟨t2, M2, h2, g2⟩ := operK_nx k
    rw [g2]; exact drawK_le hle pairs base l _ _ _ h2
  | (o, some j) :: l, i, lds, efs, t, M, K, r, h => by
    simp only [drawK] at h ⊢
    obtain ⟨t2, M2, h2, g2⟩ := fillK_nx h
    rw [g2]; exact drawK_le hle pairs base l _ _ _ h2
theorem code_le (hle : LeRec r1 r2) (hn : NaRec r2) : ∀ (a : ACode) (K : KT) (t : List Value) (A : AMem) (r : Value × AMem), code r1 a K t A = some r → code r2 a K t A = some r := by
  intro a
  induction a with
  | skip => intro K t A r h; exact h
  | ops l => intro K t A r h; exact opsK_le hle l h
  | draw first nres l chk =>
    intro K t A r h
    simp only [code] at h ⊢
    have k := opsK_le hle first h
    obtain ⟨t2, M2, h2, g2⟩ := opsK_nx first k
    rw [g2]; exact drawK_le hle chk _ l 0 [] [] h2
  | seq a b iha ihb =>
    intro K t A r h
    have k := iha _ _ _ _ h
    obtain ⟨e, t1, A1, h1, g1⟩ := code_nx hn a t A _ _ k
    refine (g1 (seqK (code r2 b K) K)).trans ?_
    cases e with
    | normal => exact ihb _ _ _ _ h1
    | exit i => exact h1
    | ret => exact h1
  | cond c a b iha ihb =>
    intro K t A r h
    simp only [code] at h ⊢
    split at h
    · split at h
      · rename_i hq; rw [if_pos hq]; exact iha _ _ _ _ h
      · rename_i hq; rw [if_neg hq]; exact ihb _ _ _ _ h
    · cases h
  | block id b ih => intro K t A r h; exact ih _ _ _ _ h
  | loop b ih => intro K t A r h; exact hle.loop b K t A r h
  | rangeFunc f ps a b _ _ =>
    intro K t A r h
    simp only [code] at h ⊢
    split at h
    · split at h
      · obtain ⟨q, h1, h2⟩ := bsi.1 h
        rw [hle.call _ _ _ _ h1]; exact h2
      · cases h
    · cases h
  | scope l b c ihb ihc =>
    intro K t A r h
    have k := ihb _ _ _ _ h
    obtain ⟨e, t1, A1, h1, g1⟩ := code_nx hn b t A _ _ k
    refine (g1 (scopeK l (code r2 c (noK l K)) K)).trans ?_
    cases e with
    | normal => exact h1
    | exit i =>
      simp only [scopeK] at h1 ⊢
      split at h1
      · rename_i he; rw [if_pos he]; exact ihc _ _ _ _ h1
      · rename_i he; rw [if_neg he]; exact h1
    | ret => exact h1
  | exit id => intro K t A r h; exact h
  | ret => intro K t A r h; exact h
  | clear ts a ih =>
    intro K t A r h
    simp only [code, clearF_eq] at h ⊢
    exact ih _ _ _ _ h
  | post a ts ih => intro K t A r h; exact ih _ _ _ _ h
theorem enterF_le (hle : LeRec r1 r2) (hn : NaRec r2) {f : AFun} {args : List Value} {A : AMem} {r : Value × AMem} (h : enterF r1 f args A = some r) : enterF r2 f args A = some r := by
  unfold enterF at h ⊢
  split at h
  · rename_i hc; rw [if_pos hc]; exact code_le hle hn _ _ _ _ _ h
  · cases h
theorem roundF_le (hle : LeRec r1 r2) (hn : NaRec r2) {l : Nat} {args : List Value} {A : AMem} {r : Value × AMem} (h : roundF r1 l args A = some r) : roundF r2 l args A = some r := by
  unfold roundF at h ⊢
  split at h
  · split at h
    · rename_i hc
      rw [if_pos hc]
      have k := code_le hle hn _ _ _ _ _ h
      obtain ⟨e, t1, A1, h1, g1⟩ := code_nx hn _ _ _ _ _ k
      refine (g1 _).trans ?_
      cases e with
      | normal =>
        simp only at h1 ⊢
        split at h1
        · split at h1
          · rename_i hr; rw [if_pos hr]; exact code_le hle hn _ _ _ _ _ h1
          · cases h1
        · cases h1
      | exit i => exact h1
      | ret => exact h1
    · cases h
  · cases h
theorem loopF_le (hle : LeRec r1 r2) (hn : NaRec r2) {b : ACode} {K : KT} {t : List Value} {A : AMem} {r : Value × AMem} (h : code r1 b (loopK r1 b K) t A = some r) : code r2 b (loopK r2 b K) t A = some r := by
  have k := code_le hle hn _ _ _ _ _ h
  obtain ⟨e, t1, A1, h1, g1⟩ := code_nx hn _ _ _ _ _ k
  refine (g1 (loopK r2 b K)).trans ?_
  cases e with
  | normal => exact hle.loop _ _ _ _ _ h1
  | exit i => exact h1
  | ret => exact h1
theorem run_succ (E : Env) : ∀ n, LeRec (run E n) (run E (n + 1))
  | 0 => ⟨fun _ _ _ _ h => (by cases h), fun _ _ _ _ h => (by cases h), fun _ _ _ _ _ h => (by cases h)⟩
  | n + 1 => by
    have ih := run_succ E n
    have hn := run_nx E (n + 1)
    refine ⟨fun f args A r h => ?_, fun l args A r h => ?_, fun b K t A r h => ?_⟩
    · have h' : (match E.ext f with
          | some h => h args A
          | none => match E.fn f with
            | some a => enterF (run E n) a args A
            | none => none) = some r := h
      show (match E.ext f with
          | some h => h args A
          | none => match E.fn f with
            | some a => enterF (run E (n + 1)) a args A
            | none => none) = some r
      split at h'
      · exact h'
      · split at h'
        · exact enterF_le ih hn h'
        · cases h'
    · exact roundF_le ih hn h
    · exact loopF_le ih hn h
theorem run_le (E : Env) {n m : Nat} (h : n ≤ m) : LeRec (run E n) (run E m) := by
  induction h with
  | refl => exact .refl _
  | step _ ih => exact ih.trans (run_succ E _)
open Classical in
noncomputable def lim (E : Env) : Rec where
  call := fun f args A => if h : ∃ n r, (run E n).call f args A = some r then some h.choose_spec.choose else none
  round := fun l args A => if h : ∃ n r, (run E n).round l args A = some r then some h.choose_spec.choose else none
  loop := fun b K t A => if h : ∃ n r, (run E n).loop b K t A = some r then some h.choose_spec.choose else none
theorem lim_call_iff {E : Env} {f : FuncId} {args : List Value} {A : AMem} {r : Value × AMem} : (lim E).call f args A = some r ↔ ∃ n, (run E n).call f args A = some r := by
  constructor
  · intro h
    simp only [lim] at h
    split at h
    · rename_i hx
      have := hx.choose_spec.choose_spec
      cases h
      exact ⟨_, this⟩
    · cases h
  · rintro ⟨n, h⟩
    have hx : ∃ n r, (run E n).call f args A = some r := ⟨n, r, h⟩
    simp only [lim]
    rw [dif_pos hx]
    have h1 := (run_le E (Nat.le_max_left n hx.choose)).call _ _ _ _ h
    have h2 := (run_le E (Nat.le_max_right n hx.choose)).call _ _ _ _ hx.choose_spec.choose_spec
    rw [h1] at h2; exact h2.symm
theorem lim_round_iff {E : Env} {f : Nat} {args : List Value} {A : AMem} {r : Value × AMem} : (lim E).round f args A = some r ↔ ∃ n, (run E n).round f args A = some r := by
  constructor
  · intro h
    simp only [lim] at h
    split at h
    · rename_i hx
      have := hx.choose_spec.choose_spec
      cases h
      exact ⟨_, this⟩
    · cases h
  · rintro ⟨n, h⟩
    have hx : ∃ n r, (run E n).round f args A = some r := ⟨n, r, h⟩
    simp only [lim]
    rw [dif_pos hx]
    have h1 := (run_le E (Nat.le_max_left n hx.choose)).round _ _ _ _ h
    have h2 := (run_le E (Nat.le_max_right n hx.choose)).round _ _ _ _ hx.choose_spec.choose_spec
    rw [h1] at h2; exact h2.symm
theorem lim_loop_iff {E : Env} {b : ACode} {K : KT} {t : List Value} {A : AMem} {r : Value × AMem} : (lim E).loop b K t A = some r ↔ ∃ n, (run E n).loop b K t A = some r := by
  constructor
  · intro h
    simp only [lim] at h
    split at h
    · rename_i hx
      have := hx.choose_spec.choose_spec
      cases h
      exact ⟨_, this⟩
    · cases h
  · rintro ⟨n, h⟩
    have hx : ∃ n r, (run E n).loop b K t A = some r := ⟨n, r, h⟩
    simp only [lim]
    rw [dif_pos hx]
    have h1 := (run_le E (Nat.le_max_left n hx.choose)).loop _ _ _ _ _ h
    have h2 := (run_le E (Nat.le_max_right n hx.choose)).loop _ _ _ _ _ hx.choose_spec.choose_spec
    rw [h1] at h2; exact h2.symm
theorem run_lim (E : Env) (n : Nat) : LeRec (run E n) (lim E) :=
  ⟨fun _ _ _ _ h => lim_call_iff.2 ⟨n, h⟩, fun _ _ _ _ h => lim_round_iff.2 ⟨n, h⟩, fun _ _ _ _ _ h => lim_loop_iff.2 ⟨n, h⟩⟩
theorem lim_nx (E : Env) : NaRec (lim E) := ⟨fun b t M K r h => by
  obtain ⟨n, hn⟩ := lim_loop_iff.1 h
  obtain ⟨e, t', M', h1, h2⟩ := (run_nx E n).loop b t M K r hn
  refine ⟨e, t', M', h1, fun K' => ?_⟩
  cases hk : K' e t' M' with
  | some r' => exact lim_loop_iff.2 ⟨n, (h2 K').trans hk⟩
  | none =>
    show (lim E).loop b K' t M = none
    cases hl : (lim E).loop b K' t M with
    | none => rfl
    | some r' =>
      exfalso
      obtain ⟨m, hm⟩ := lim_loop_iff.1 hl
      have k3 := (run_le E (Nat.le_max_right n m)).loop _ _ _ _ _ hm
      obtain ⟨e3, t3, M3, b1, b2⟩ := (run_nx E (max n m)).loop b t M K' r' k3
      classical
      let K0 : KT := fun e1 t1 M1 => if e1 = e ∧ t1 = t' ∧ M1 = M' then some (undef, []) else none
      have a1 : (run E n).loop b K0 t M = some (undef, []) := (h2 K0).trans (if_pos ⟨rfl, rfl, rfl⟩)
      have a2 := (run_le E (Nat.le_max_left n m)).loop _ _ _ _ _ a1
      have a3 : K0 e3 t3 M3 = some (undef, []) := (b2 K0).symm.trans a2
      by_cases hc : e3 = e ∧ t3 = t' ∧ M3 = M'
      · obtain ⟨rfl, rfl, rfl⟩ := hc
        rw [hk] at b1; cases b1
      · have : K0 e3 t3 M3 = none := if_neg hc
        rw [this] at a3; cases a3⟩
theorem opV_lim {E : Env} {op : AOp} {t : List Value} {M : AMem} {r : Value × AMem} (h : opV (lim E) op t M = some r) : ∃ n, opV (run E n) op t M = some r := by
  unfold opV at h ⊢
  cases op <;> try exact ⟨0, h⟩
  case call flat f args ret single =>
    simp only [opK] at h ⊢
    split at h
    · split at h
      · split at h
        · rename_i hf
          split at h
          · rename_i hc
            obtain ⟨q, h1, h2⟩ := bsi.1 h
            obtain ⟨n, hn⟩ := lim_call_iff.1 h1
            exact ⟨n, by rw [if_pos hf, if_pos hc, hn]; exact h2⟩
          · cases h
        · rename_i hf
          obtain ⟨q, h1, h2⟩ := bsi.1 h
          obtain ⟨n, hn⟩ := lim_call_iff.1 h1
          exact ⟨n, by rw [if_neg hf, hn]; exact h2⟩
      · split at h
        · cases h
        · rename_i hf
          obtain ⟨q, h1, h2⟩ := bsi.1 h
          obtain ⟨n, hn⟩ := lim_round_iff.1 h1
          exact ⟨n, by simp only [hf, Bool.false_eq_true, if_false, hn]; exact h2⟩
      · cases h
    · cases h
theorem operR_lim {E : Env} {o : AOper} {t : List Value} {M : AMem} {r : Value × AMem} (h : operR (lim E) o t M = some r) : ∃ n, operR (run E n) o t M = some r := by
  unfold operR at h ⊢
  split at h
  · exact opV_lim h
  · split at h
    · split at h
      · rename_i hb
        obtain ⟨n, hn⟩ := opV_lim h
        exact ⟨n, by simp only [hb, if_true]; exact hn⟩
      · rename_i hb; exact ⟨0, by simp only [hb, if_false]; exact h⟩
    · exact ⟨0, h⟩
    · cases h
theorem operK_lim {E : Env} {o : AOper} {t : List Value} {M : AMem} {K : List Value → AMem → Res} {r : Value × AMem} (h : operK (lim E) o t M K = some r) : ∃ n, operK (run E n) o t M K = some r := by
  rw [operK_na] at h
  obtain ⟨p, h1, h2⟩ := bsi.1 h
  obtain ⟨n, hn⟩ := operR_lim h1
  exact ⟨n, by rw [operK_na, hn]; exact h2⟩
theorem opsK_lim {E : Env} : ∀ (l : List AOper) {t : List Value} {M : AMem} {K : List Value → AMem → Res} {r : Value × AMem}, opsK (lim E) l t M K = some r → ∃ n, opsK (run E n) l t M K = some r
  | [], t, M, K, r, h => ⟨0, h⟩
  | o :: l, t, M, K, r, h => by
    obtain ⟨n1, h1⟩ := operK_lim h
    obtain ⟨t2, M2, h2, g2⟩ := operK_nx h1
    obtain ⟨n2, h3⟩ := opsK_lim l h2
    refine ⟨max n1 n2, ?_⟩
    have h4 := opsK_le (run_le E (Nat.le_max_right n1 n2)) l h3
    have h5 : operK (run E n1) o t M (fun t M => opsK (run E (max n1 n2)) l t M K) = some r := (g2 _).trans h4
    exact operK_le (run_le E (Nat.le_max_left n1 n2)) h5
theorem drawK_lim {E : Env} (pairs : List (Nat × Nat)) (base : Nat) : ∀ (l : List (AOper × Option Nat)) (i : Nat) (lds : List (Nat × Nat)) (efs : List (Nat × AMem × AMem)) {t : List Value} {M : AMem}
    {K : List Value → AMem → Res} {r : Value × AMem}, drawK (lim E) pairs base l i lds efs t M K = some r → ∃ n, drawK (run E n) pairs base l i lds efs t M K = some r
  | [], i, lds, efs, t, M, K, r, h => ⟨0, h⟩
  | (o, none) :: l, i, lds, efs, t, M, K, r, h => by
    simp only [drawK] at h ⊢
    obtain ⟨n1, h1⟩ := operK_lim h
    obtain ⟨t2, M2, h2, g2⟩ := operK_nx h1
    obtain ⟨n2, h3⟩ := drawK_lim pairs base l _ _ _ h2
    refine ⟨max n1 n2, ?_⟩
    have h4 := drawK_le (run_le E (Nat.le_max_right n1 n2)) pairs base l _ _ _ h3
    exact operK_le (run_le E (Nat.le_max_left n1 n2)) ((g2 _).trans h4)
  | (o, some j) :: l, i, lds, efs, t, M, K, r, h => by
    simp only [drawK] at h ⊢
    obtain ⟨t2, M2, h2, g2⟩ := fillK_nx h
    obtain ⟨n2, h3⟩ := drawK_lim pairs base l _ _ _ h2
    exact ⟨n2, (g2 _).trans h3⟩
theorem code_lim {E : Env} : ∀ (a : ACode) (K : KT) (t : List Value) (A : AMem) (r : Value × AMem), code (lim E) a K t A = some r → ∃ n, code (run E n) a K t A = some r := by
  intro a
  induction a with
  | skip => intro K t A r h; exact ⟨0, h⟩
  | ops l => intro K t A r h; exact opsK_lim l h
  | draw first nres l chk =>
    intro K t A r h
    simp only [code] at h ⊢
    obtain ⟨n1, h1⟩ := opsK_lim first h
    obtain ⟨t2, M2, h2, g2⟩ := opsK_nx first h1
    obtain ⟨n2, h3⟩ := drawK_lim chk _ l 0 [] [] h2
    refine ⟨max n1 n2, ?_⟩
    have h4 := drawK_le (run_le E (Nat.le_max_right n1 n2)) chk _ l 0 [] [] h3
    exact opsK_le (run_le E (Nat.le_max_left n1 n2)) first ((g2 _).trans h4)
  | seq a b iha ihb =>
    intro K t A r h
    obtain ⟨n1, h1⟩ := iha _ _ _ _ h
    obtain ⟨e, t2, M2, h2, g2⟩ := code_nx (run_nx E n1) a t A _ _ h1
    cases e with
    | normal =>
      obtain ⟨n2, h3⟩ := ihb _ _ _ _ h2
      refine ⟨max n1 n2, ?_⟩
      have h4 := code_le (run_le E (Nat.le_max_right n1 n2)) (run_nx E _) _ _ _ _ _ h3
      show code (run E (max n1 n2)) a (seqK (code (run E (max n1 n2)) b K) K) t A = some r
      exact code_le (run_le E (Nat.le_max_left n1 n2)) (run_nx E _) a _ _ _ _ ((g2 (seqK (code (run E (max n1 n2)) b K) K)).trans h4)
    | exit i => exact ⟨n1, (g2 (seqK (code (run E n1) b K) K)).trans h2⟩
    | ret => exact ⟨n1, (g2 (seqK (code (run E n1) b K) K)).trans h2⟩
  | cond c a b iha ihb =>
    intro K t A r h
    simp only [code] at h ⊢
    split at h
    · split at h
      · rename_i hq
        obtain ⟨n, hn⟩ := iha _ _ _ _ h
        exact ⟨n, by simp only [hq, if_true]; exact hn⟩
      · rename_i hq
        obtain ⟨n, hn⟩ := ihb _ _ _ _ h
        exact ⟨n, by simp only [hq, if_false]; exact hn⟩
    · cases h
  | block id b ih => intro K t A r h; exact ih _ _ _ _ h
  | loop b ih => intro K t A r h; exact lim_loop_iff.1 h
  | rangeFunc f ps a b _ _ =>
    intro K t A r h
    simp only [code] at h ⊢
    split at h
    · split at h
      · obtain ⟨q, h1, h2⟩ := bsi.1 h
        obtain ⟨n, hn⟩ := lim_call_iff.1 h1
        exact ⟨n, by rw [hn]; exact h2⟩
      · cases h
    · cases h
  | scope l b c ihb ihc =>
    intro K t A r h
    obtain ⟨n1, h1⟩ := ihb _ _ _ _ h
    obtain ⟨e, t2, M2, h2, g2⟩ := code_nx (run_nx E n1) b t A _ _ h1
    cases e with
    | normal => exact ⟨n1, (g2 (scopeK l (code (run E n1) c (noK l K)) K)).trans h2⟩
    | exit i =>
      simp only [scopeK] at h2
      split at h2
      · rename_i he
        obtain ⟨n2, h3⟩ := ihc _ _ _ _ h2
        refine ⟨max n1 n2, ?_⟩
        have h4 := code_le (run_le E (Nat.le_max_right n1 n2)) (run_nx E _) _ _ _ _ _ h3
        show code (run E (max n1 n2)) b (scopeK l (code (run E (max n1 n2)) c (noK l K)) K) t A = some r
        exact code_le (run_le E (Nat.le_max_left n1 n2)) (run_nx E _) b _ _ _ _ ((g2 (scopeK l (code (run E (max n1 n2)) c (noK l K)) K)).trans (by simp only [scopeK, he, if_true]; exact h4))
      · rename_i he
        exact ⟨n1, (g2 (scopeK l (code (run E n1) c (noK l K)) K)).trans (by simp only [scopeK, he, if_false]; exact h2)⟩
    | ret => exact ⟨n1, (g2 (scopeK l (code (run E n1) c (noK l K)) K)).trans h2⟩
  | exit id => intro K t A r h; exact ⟨0, h⟩
  | ret => intro K t A r h; exact ⟨0, h⟩
  | clear ts a ih =>
    intro K t A r h
    simp only [code, clearF_eq] at h ⊢
    exact ih _ _ _ _ h
  | post a ts ih => intro K t A r h; exact ih _ _ _ _ h
theorem opt_eq {X : Type} {a b : Option X} (h1 : ∀ r, a = some r → b = some r) (h2 : ∀ r, b = some r → a = some r) : a = b := by
  cases a with
  | some x => exact (h1 x rfl).symm
  | none =>
    cases b with
    | none => rfl
    | some y => exact h2 y rfl
theorem lim_call {E : Env} {f : FuncId} {a : AFun} (hx : E.ext f = none) (hf : E.fn f = some a) (args : List Value) (A : AMem) : (lim E).call f args A = enterF (lim E) a args A := by
  have unf : ∀ n, (run E (n + 1)).call f args A = enterF (run E n) a args A := fun n => by
    show (match E.ext f with
          | some h => h args A
          | none => match E.fn f with
            | some a => enterF (run E n) a args A
            | none => none) = _
    rw [hx, hf]
  refine opt_eq (fun r h => ?_) fun r h => ?_
  · obtain ⟨n, hn⟩ := lim_call_iff.1 h
    have := (run_succ E n).call _ _ _ _ hn
    rw [unf] at this
    exact enterF_le (run_lim E n) (lim_nx E) this
  · have h0 := h
    unfold enterF at h
    split at h
    · rename_i hc
      obtain ⟨n, hn⟩ := code_lim _ _ _ _ _ h
      exact lim_call_iff.2 ⟨n + 1, by rw [unf]; unfold enterF; rw [if_pos hc]; exact hn⟩
    · cases h
theorem lim_ext {E : Env} {f : FuncId} {g : List Value → AMem → Res} (hx : E.ext f = some g) (args : List Value) (A : AMem) : (lim E).call f args A = g args A := by
  have unf : ∀ n, (run E (n + 1)).call f args A = g args A := fun n => by
    show (match E.ext f with
          | some h => h args A
          | none => match E.fn f with
            | some a => enterF (run E n) a args A
            | none => none) = _
    rw [hx]
  refine opt_eq (fun r h => ?_) fun r h => lim_call_iff.2 ⟨1, (unf 0).trans h⟩
  obtain ⟨n, hn⟩ := lim_call_iff.1 h
  have := (run_succ E n).call _ _ _ _ hn
  rw [unf] at this
  exact this
theorem lim_loop (E : Env) (b : ACode) (K : KT) (t : List Value) (A : AMem) : (lim E).loop b K t A = code (lim E) b (loopK (lim E) b K) t A := by
  refine opt_eq (fun r h => ?_) fun r h => ?_
  · obtain ⟨n, hn⟩ := lim_loop_iff.1 h
    have h' : code (run E n) b (loopK (run E n) b K) t A = some r := (run_succ E n).loop _ _ _ _ _ hn
    exact loopF_le (run_lim E n) (lim_nx E) h'
  · obtain ⟨n1, h1⟩ := code_lim _ _ _ _ _ h
    obtain ⟨e, t2, M2, h2, g2⟩ := code_nx (run_nx E n1) b t A _ _ h1
    cases e with
    | normal =>
      obtain ⟨n2, h3⟩ := lim_loop_iff.1 (show (lim E).loop b K t2 M2 = some r from h2)
      refine lim_loop_iff.2 ⟨max n1 n2 + 1, ?_⟩
      show code (run E (max n1 n2)) b (loopK (run E (max n1 n2)) b K) t A = some r
      have h4 := (run_le E (Nat.le_max_right n1 n2)).loop _ _ _ _ _ h3
      exact code_le (run_le E (Nat.le_max_left n1 n2)) (run_nx E _) _ _ _ _ _ ((g2 (loopK (run E (max n1 n2)) b K)).trans h4)
    | exit i => exact lim_loop_iff.2 ⟨n1 + 1, (g2 (loopK (run E n1) b K)).trans h2⟩
    | ret => exact lim_loop_iff.2 ⟨n1 + 1, (g2 (loopK (run E n1) b K)).trans h2⟩
theorem lim_round (E : Env) (l : Nat) (args : List Value) (A : AMem) : (lim E).round l args A = roundF (lim E) l args A := by
  refine opt_eq (fun r h => ?_) fun r h => ?_
  · obtain ⟨n, hn⟩ := lim_round_iff.1 h
    have h' : roundF (run E n) l args A = some r := (run_succ E n).round _ _ _ _ hn
    exact roundF_le (run_lim E n) (lim_nx E) h'
  · unfold roundF at h
    split at h
    · rename_i r0 hr0
      split at h
      · rename_i hc
        obtain ⟨n1, h1⟩ := code_lim _ _ _ _ _ h
        obtain ⟨e, t2, M2, h2, g2⟩ := code_nx (run_nx E n1) _ _ _ _ _ h1
        cases e with
        | normal =>
          simp only at h2
          split at h2
          · rename_i r2 hr2
            split at h2
            · rename_i hst
              obtain ⟨n2, h3⟩ := code_lim _ _ _ _ _ h2
              refine lim_round_iff.2 ⟨max n1 n2 + 1, ?_⟩
              show roundF (run E (max n1 n2)) l args A = some r
              unfold roundF
              simp only [hr0]
              rw [if_pos hc]
              refine code_le (run_le E (Nat.le_max_left n1 n2)) (run_nx E _) _ _ _ _ _ ((g2 _).trans ?_)
              simp only [hr2]
              rw [if_pos hst]
              exact code_le (run_le E (Nat.le_max_right n1 n2)) (run_nx E _) _ _ _ _ _ h3
            · cases h2
          · cases h2
        | exit i => cases h2
        | ret => cases h2
      · cases h
    · cases h
end
open Go Go.RowKit
section
variable {P : Program} {base : Nat} {A : AMem} {ι : Iota} {W : World}
theorem Sim.lt (h : Sim P base A ι W) {a b o : Nat} (hi : ι a = some (b, o)) : a < A.length := by
  obtain ⟨x, hx, _⟩ := h.has a b o hi
  exact (ges.1 hx).1
theorem Sim.fresh (h : Sim P base A ι W) : ι A.length = none := by
  cases hi : ι A.length with
  | none => rfl
  | some p => have := h.lt (b := p.1) (o := p.2) hi; omega
theorem Sim.inW (h : Sim P base A ι W) {a b o : Nat} (hi : ι a = some (b, o)) (hd : A[a]? ≠ some .dead) : b < W.heap.size := by
  obtain ⟨x, hx, hr⟩ := h.has a b o hi
  cases x with
  | cells cs m =>
    obtain ⟨cs', t, fr, hb, _⟩ := h.cells a b o cs m hi hx
    exact (Array.getElem?_eq_some_iff.1 hb).1
  | loop l =>
    obtain ⟨l', hb, _⟩ := h.loop a b o l hi hx
    exact (Array.getElem?_eq_some_iff.1 hb).1
  | dead => exact absurd hx hd
  | room => exact absurd rfl hr
  | map k kv es =>
    obtain ⟨⟨es', c, hb, _⟩, _⟩ := h.map a b o k kv es hi hx
    exact (Array.getElem?_eq_some_iff.1 hb).1
theorem Le.put {A' : AMem} {ι' : Iota} {W' : World} (n bn on : Nat)
    (hA : ∀ a : Nat, a ≠ n → A'[a]? = A[a]?) (hι : ∀ a, a ≠ n → ι' a = ι a) (hn : ι' n = some (bn, on))
    (hold : A[n]? ≠ some .dead ∧ ((ι n = none ∧ A.length ≤ n) ∨ ι n = some (bn, on)))
    (hlen : A.length ≤ A'.length)
    (hsz : ∀ b, szW W b ≤ szW W' b)
    (hv : ∀ cs m, A[n]? = some (.cells cs m) → A'[n]? = some .dead ∨ ∃ cs' m', A'[n]? = some (.cells cs' m') ∧ m.ver ≤ m'.ver ∧ (m'.ver = m.ver → cs' = cs)) : Le A ι W A' ι' W' := by
  refine ⟨fun a ha => ?_, fun a b o hi => ?_, hsz, .put n hA hv, hlen, fun a ha hz => ?_⟩
  · by_cases e : a = n
    · subst e; exact absurd ha hold.1
    · rw [hA a e]; exact ha
  · by_cases e : a = n
    · subst e
      rcases hold.2 with ⟨h0, _⟩ | h1
      · rw [h0] at hi; cases hi
      · rw [h1] at hi; cases hi; exact .inr hn
    · exact .inr (by rw [hι a e]; exact hi)
  · by_cases e : a = n
    · subst e
      rcases hold.2 with ⟨_, h0⟩ | h1
      · omega
      · rw [h1] at hz; cases hz
    · rw [hι a e]; exact hz
theorem Sim.put (h : Sim P base A ι W) {A' : AMem} {ι' : Iota} {W' : World} (n bn on : Nat) (x : AObj)
    (hA : ∀ a : Nat, a ≠ n → A'[a]? = A[a]?) (hx : A'[n]? = some x) (hι : ∀ a, a ≠ n → ι' a = ι a) (hn : ι' n = some (bn, on))
    (hle : Le A ι W A' ι' W')
    (hfree : ∀ a o, a ≠ n → ι a = some (bn, o) → A[a]? = some .dead)
    (hW : ∀ b, b ≠ bn → b < W.heap.size → W'.heap[b]? = W.heap[b]?) (hroom : x ≠ .room)
    (hc : ∀ cs m, x = .cells cs m → ∃ cs' t fr, W'.heap[bn]? = some (.cells cs' t fr) ∧ on + cs.length ≤ cs'.size ∧
      (∀ (j : Nat) (v : Value), cs[j]? = some v → ∃ v', cs'[on + j]? = some v' ∧ VRel A' ι' W' v v') ∧ (m.ro = false → fr = (0, 0) ∧ base ≤ bn))
    (hl : ∀ l, x = .loop l → ∃ l', W'.heap[bn]? = some (.loop l') ∧ LoopRel P A' ι' W' l l' ∧ base ≤ bn)
    (hlf : ∀ cs m, x = .cells cs m → cs.all leafV = true)
    (hmp : ∀ k kv es, x = .map k kv es → MapIn W' bn k kv es ∧ base ≤ bn := by intro _ _ _ e; cases e) : Sim P base A' ι' W' := by
  have off : ∀ a b o, a ≠ n → ι a = some (b, o) → A[a]? ≠ some .dead → W'.heap[b]? = W.heap[b]? := fun a b o e hi hd => by
    refine hW b (fun hb => ?_) (h.inW hi hd)
    subst hb
    exact hd (hfree a o e hi)
  refine ⟨fun a b o hi => ?_, fun a b o cs m hi hcs => ?_, fun a b o l hi hcs => ?_, fun a b o cs m hi hcs => ?_, fun a b o k kv es hi hcs => ?_, fun a a' b o o' hne h1 h2 hw => ?_⟩
  · by_cases e : a = n
    · subst e; exact ⟨x, hx, hroom⟩
    · rw [hι a e] at hi
      rw [hA a e]
      exact h.has a b o hi
  · by_cases e : a = n
    · subst e
      rw [hn] at hi; cases hi
      rw [hx] at hcs; cases hcs
      exact hc cs m rfl
    · rw [hι a e] at hi
      rw [hA a e] at hcs
      obtain ⟨cs', t, fr, hb, h1, h2, h3⟩ := h.cells a b o cs m hi hcs
      refine ⟨cs', t, fr, (off a b o e hi (by rw [hcs]; simp)).trans hb, h1, fun j v hv => ?_, h3⟩
      obtain ⟨v', q1, q2⟩ := h2 j v hv
      exact ⟨v', q1, q2.mono hle⟩
  · by_cases e : a = n
    · subst e
      rw [hn] at hi; cases hi
      rw [hx] at hcs; cases hcs
      exact hl l rfl
    · rw [hι a e] at hi
      rw [hA a e] at hcs
      obtain ⟨l', hb, h1, h2⟩ := h.loop a b o l hi hcs
      exact ⟨l', (off a b o e hi (by rw [hcs]; simp)).trans hb, h1.mono hle, h2⟩
  · by_cases e : a = n
    · subst e
      rw [hx] at hcs; cases hcs
      exact hlf cs m rfl
    · rw [hι a e] at hi
      rw [hA a e] at hcs
      exact h.leaf a b o cs m hi hcs
  · by_cases e : a = n
    · subst e
      rw [hn] at hi; cases hi
      rw [hx] at hcs; cases hcs
      exact hmp k kv es rfl
    · rw [hι a e] at hi
      rw [hA a e] at hcs
      obtain ⟨⟨es', c, hb, h1⟩, h2⟩ := h.map a b o k kv es hi hcs
      exact ⟨⟨es', c, (off a b o e hi (by rw [hcs]; simp)).trans hb, h1⟩, h2⟩
  · by_cases e : a = n
    · subst e
      rw [hn] at h1; cases h1
      rw [hι a' (Ne.symm hne)] at h2
      rw [hA a' (Ne.symm hne)]
      exact hfree a' o' (Ne.symm hne) h2
    · rw [hι a e] at h1
      have hw' : Wrt A a := by
        rcases hw with ⟨cs, m, q, r⟩ | ⟨l, q⟩ | ⟨k, kv, es, q⟩
        · rw [hA a e] at q; exact .inl ⟨cs, m, q, r⟩
        · rw [hA a e] at q; exact .inr (.inl ⟨l, q⟩)
        · rw [hA a e] at q; exact .inr (.inr ⟨k, kv, es, q⟩)
      by_cases e' : a' = n
      · subst e'
        rw [hn] at h2; cases h2
        have := hfree a o e h1
        rcases hw' with ⟨cs, m, q, r⟩ | ⟨l, q⟩ | ⟨k, kv, es, q⟩ <;> (rw [this] at q; cases q)
      · rw [hι a' e'] at h2
        rw [hA a' e']
        exact h.sep a a' b o o' hne h1 h2 hw'
theorem Sim.kill (h : Sim P base A ι W) (a : Nat) (hr : A[a]? ≠ some .room) : Sim P base (A.set a .dead) ι W ∧ Le A ι W (A.set a .dead) ι W := by
  have get : ∀ a' : Nat, (A.set a .dead)[a']? = if a = a' then (if a' < A.length then some .dead else none) else A[a']? := fun a' => by
    rw [List.getElem?_set]
    by_cases e : a = a'
    · subst e; simp
    · simp [e]
  have hle : Le A ι W (A.set a .dead) ι W := by
    refine ⟨fun a' hd => ?_, fun a' b o hi => ?_, fun _ => Nat.le_refl _, .put a (fun a' e => by rw [get, if_neg (Ne.symm e)]) fun cs m h => .inl (by rw [get, if_pos rfl, if_pos (ges.1 h).1]), by simp, fun _ _ h => h⟩
    · rw [get]
      split
      · rw [if_pos (ges.1 hd).1]
      · exact hd
    · by_cases e : a = a'
      · left; rw [get, if_pos e, if_pos (h.lt hi)]
      · exact .inr hi
  refine ⟨⟨fun a' b o hi => ?_, fun a' b o cs m hi hcs => ?_, fun a' b o l hi hcs => ?_, fun a' b o cs m hi hcs => ?_, fun a' b o k kv es hi hcs => ?_, fun a1 a2 b o o' hne h1 h2 hw => ?_⟩, hle⟩
  · rw [get]
    split
    · rw [if_pos (h.lt hi)]; exact ⟨.dead, rfl, by simp⟩
    · exact h.has a' b o hi
  · rw [get] at hcs
    split at hcs
    · split at hcs <;> cases hcs
    · obtain ⟨cs', t, fr, hb, q1, q2, q3⟩ := h.cells a' b o cs m hi hcs
      refine ⟨cs', t, fr, hb, q1, fun j v hv => ?_, q3⟩
      obtain ⟨v', r1, r2⟩ := q2 j v hv
      exact ⟨v', r1, r2.mono hle⟩
  · rw [get] at hcs
    split at hcs
    · split at hcs <;> cases hcs
    · obtain ⟨l', hb, q1, q2⟩ := h.loop a' b o l hi hcs
      exact ⟨l', hb, q1.mono hle, q2⟩
  · rw [get] at hcs
    split at hcs
    · split at hcs <;> cases hcs
    · exact h.leaf a' b o cs m hi hcs
  · rw [get] at hcs
    split at hcs
    · split at hcs <;> cases hcs
    · exact h.map a' b o k kv es hi hcs
  · have hw' : Wrt A a1 := by
      rcases hw with ⟨cs, m, q, r⟩ | ⟨l, q⟩ | ⟨k, kv, es, q⟩
      · rw [get] at q; split at q
        · split at q <;> cases q
        · exact .inl ⟨cs, m, q, r⟩
      · rw [get] at q; split at q
        · split at q <;> cases q
        · exact .inr (.inl ⟨l, q⟩)
      · rw [get] at q; split at q
        · split at q <;> cases q
        · exact .inr (.inr ⟨k, kv, es, q⟩)
    have := h.sep a1 a2 b o o' hne h1 h2 hw'
    rw [get]; split
    · rw [if_pos (h.lt h2)]
    · exact this
theorem szW_alloc (o : Obj) (b : Nat) : szW W b ≤ szW (W.alloc o) b := by
  unfold szW
  by_cases hb : b < W.heap.size
  · rw [Below.heap_alloc W o b hb]; exact Nat.le_refl _
  · rw [Array.getElem?_eq_none (by omega)]; exact Nat.zero_le _
theorem heap_alloc_self (o : Obj) : (W.alloc o).heap[W.heap.size]? = some o := by
  show (W.heap.push o)[W.heap.size]? = some o
  simp
theorem Ev.alloc_w (hb : base ≤ W.heap.size) (o : Obj) : Below base W (W.alloc o) ∧
    (∀ (r : Nat) (ds : Option (List Deferred)), W.heap[r]? = some (.deferred ds) → (W.alloc o).heap[r]? = some (.deferred ds)) ∧
    (∀ (r : Nat) (l : Loop), W.heap[r]? = some (.loop l) → ∃ l', (W.alloc o).heap[r]? = some (.loop l')) :=
  ⟨(Below.refl _ _).alloc hb o, fun r ds e => (Below.heap_alloc W o r (Array.getElem?_eq_some_iff.1 e).1).trans e,
   fun r l e => ⟨l, (Below.heap_alloc W o r (Array.getElem?_eq_some_iff.1 e).1).trans e⟩⟩
def upd (ι : Iota) (n b o : Nat) : Iota := fun a => if a = n then some (b, o) else ι a
theorem upd_same (n b o : Nat) : upd ι n b o n = some (b, o) := if_pos rfl
theorem upd_other (n b o : Nat) (a : Nat) (h : a ≠ n) : upd ι n b o a = ι a := if_neg h
theorem Sim.newCells (h : Sim P base A ι W) (hb : base ≤ W.heap.size) {A' : AMem} (n : Nat) (hn : ι n = none) (hnd : A[n]? = none) (hlen' : A.length ≤ A'.length)
    (hA : ∀ a : Nat, a ≠ n → A'[a]? = A[a]?) (cs : List Value) (m : Meta) (hx : A'[n]? = some (.cells cs m)) (hlf : cs.all leafV = true) (cs' : Array Value) (t : TypeId)
    (hlen : cs.length ≤ cs'.size) (hr : ∀ (j : Nat) (v : Value), cs[j]? = some v → ∃ v', cs'[j]? = some v' ∧ VRel A ι W v v') :
    Sim P base A' (upd ι n W.heap.size 0) (W.alloc (.cells cs' t)) ∧ Ev base A ι W A' (upd ι n W.heap.size 0) (W.alloc (.cells cs' t)) := by
  have hle : Le A ι W A' (upd ι n W.heap.size 0) (W.alloc (.cells cs' t)) :=
    Le.put n W.heap.size 0 hA (upd_other n _ _) (upd_same n _ _) ⟨by rw [hnd]; simp, .inl ⟨hn, List.getElem?_eq_none_iff.1 hnd⟩⟩ hlen' (szW_alloc _) (fun cs m e => by rw [hnd] at e; cases e)
  obtain ⟨e1, e2, e3⟩ := Ev.alloc_w (W := W) hb (.cells cs' t)
  refine ⟨h.put n W.heap.size 0 (.cells cs m) hA hx (upd_other n _ _) (upd_same n _ _) hle (fun a o _ hi => ?_) (fun b _ hlt => Below.heap_alloc _ _ _ hlt) (by simp) ?_ (fun l hl => by cases hl) (fun cs0 m0 e => by cases e; exact hlf), ⟨hle, e1, e2, e3⟩⟩
  · by_cases hd : A[a]? = some .dead
    · exact hd
    · exact absurd (h.inW hi hd) (Nat.lt_irrefl _)
  · intro cs0 m0 e
    cases e
    refine ⟨cs', t, (0, 0), heap_alloc_self _, by omega, fun j v hv => ?_, fun _ => ⟨rfl, hb⟩⟩
    obtain ⟨v', q1, q2⟩ := hr j v hv
    exact ⟨v', by rw [Nat.zero_add]; exact q1, q2.mono hle⟩
theorem Sim.allocW (h : Sim P base A ι W) (hb : base ≤ W.heap.size) (o : Obj) : Sim P base A ι (W.alloc o) ∧ Ev base A ι W A ι (W.alloc o) := by
  have hle : Le A ι W A ι (W.alloc o) := ⟨fun _ h => h, fun _ _ _ h => .inr h, szW_alloc o, .refl _, Nat.le_refl _, fun _ _ h => h⟩
  obtain ⟨e1, e2, e3⟩ := Ev.alloc_w (W := W) hb o
  have off : ∀ (b : Nat) (x : Obj), W.heap[b]? = some x → (W.alloc o).heap[b]? = some x := fun b x hx =>
    (Below.heap_alloc W o b (Array.getElem?_eq_some_iff.1 hx).1).trans hx
  refine ⟨⟨h.has, fun a b o cs m hi hcs => ?_, fun a b o l hi hcs => ?_, h.leaf, fun a b o k kv es hi hcs => ?_, h.sep⟩, ⟨hle, e1, e2, e3⟩⟩
  · obtain ⟨cs', t, fr, hb, q1, q2, q3⟩ := h.cells a b o cs m hi hcs
    refine ⟨cs', t, fr, off _ _ hb, q1, fun j v hv => ?_, q3⟩
    obtain ⟨v', r1, r2⟩ := q2 j v hv
    exact ⟨v', r1, r2.mono hle⟩
  · obtain ⟨l', hb, q1, q2⟩ := h.loop a b o l hi hcs
    exact ⟨l', off _ _ hb, q1.mono hle, q2⟩
  · obtain ⟨⟨es', c, hb, q1⟩, q2⟩ := h.map a b o k kv es hi hcs
    exact ⟨⟨es', c, off _ _ hb, q1⟩, q2⟩
theorem Sim.of_heap (h : Sim P base A ι W) {W' : World} (hh : W'.heap = W.heap) (ho : W'.os = W.os) (ht : W'.tape = W.tape) (hp : W'.output = W.output) :
    Sim P base A ι W' ∧ Ev base A ι W A ι W' := by
  have hsz : ∀ b, szW W b = szW W' b := fun b => by unfold szW; rw [hh]
  have hle : Le A ι W A ι W' := ⟨fun _ h => h, fun _ _ _ h => .inr h, fun b => Nat.le_of_eq (hsz b), .refl _, Nat.le_refl _, fun _ _ h => h⟩
  refine ⟨⟨h.has, fun a b o cs m hi hcs => ?_, fun a b o l hi hcs => ?_, h.leaf, fun a b o k kv es hi hcs => ?_, h.sep⟩, ⟨hle, ⟨ho, ht, hp, by rw [hh]; exact Nat.le_refl _, fun k _ => by rw [hh]⟩, fun r ds e => by rw [hh]; exact e, fun r l e => ⟨l, by rw [hh]; exact e⟩⟩⟩
  · obtain ⟨cs', t, fr, hb, q1, q2, q3⟩ := h.cells a b o cs m hi hcs
    refine ⟨cs', t, fr, by rw [hh]; exact hb, q1, fun j v hv => ?_, q3⟩
    obtain ⟨v', r1, r2⟩ := q2 j v hv
    exact ⟨v', r1, r2.mono hle⟩
  · obtain ⟨l', hb, q1, q2⟩ := h.loop a b o l hi hcs
    exact ⟨l', by rw [hh]; exact hb, q1.mono hle, q2⟩
  · obtain ⟨⟨es', c, hb, q1⟩, q2⟩ := h.map a b o k kv es hi hcs
    exact ⟨⟨es', c, by rw [hh]; exact hb, q1⟩, q2⟩
end
theorem wrL_length (cs : List Value) (o : Nat) (vs : List Value) : (wrL cs o vs).length = cs.length := by
  induction vs generalizing cs o with
  | nil => rfl
  | cons v vs ih => simp [wrL, ih]
theorem wrL_get (vs : List Value) : ∀ (cs : List Value) (o : Nat), o + vs.length ≤ cs.length → ∀ j : Nat,
    (wrL cs o vs)[j]? = if o ≤ j ∧ j < o + vs.length then vs[j - o]? else cs[j]? := by
  induction vs with
  | nil =>
    intro cs o _ j
    rw [if_neg (by simp)]; rfl
  | cons v vs ih =>
    intro cs o h j
    simp only [List.length_cons] at h
    simp only [wrL]
    rw [ih _ _ (by simp; omega), List.getElem?_set]
    simp only [List.length_cons]
    by_cases h1 : o + 1 ≤ j ∧ j < o + 1 + vs.length
    · rw [if_pos h1, if_pos (by omega)]
      obtain ⟨k, rfl⟩ : ∃ k, j = o + 1 + k := ⟨j - (o + 1), by omega⟩
      rw [show o + 1 + k - (o + 1) = k by omega, show o + 1 + k - o = k + 1 by omega]
      simp
    · rw [if_neg h1]
      by_cases h2 : o = j
      · subst h2
        rw [if_pos rfl, if_pos (by omega), if_pos (by omega)]; simp
      · rw [if_neg h2, if_neg (by omega)]
theorem wrL_leaf (vs : List Value) : ∀ (cs : List Value) (o : Nat), cs.all leafV = true → vs.all leafV = true → (wrL cs o vs).all leafV = true := by
  induction vs with
  | nil => intro cs o h _; exact h
  | cons v vs ih =>
    intro cs o h hv
    simp only [List.all_cons, Bool.and_eq_true] at hv
    refine ih _ _ ?_ hv.2
    rw [List.all_eq_true] at h ⊢
    intro x hx
    rcases List.mem_or_eq_of_mem_set hx with hm | rfl
    · exact h x hm
    · exact hv.1
theorem oneCell_of_leaf {v : Value} (h : leafV v = true) : v.oneCell' = true := by
  cases v <;> simp_all [leafV, Value.oneCell']
section
variable {P : Program} {base : Nat} {A : AMem} {ι : Iota} {W : World}
theorem LRel.leaf {l l' : List Value} (h : LRel A ι W l l') (hl : l.all leafV = true) : ∀ v ∈ l', v.oneCell' = true := by
  intro v hv
  obtain ⟨j, hj⟩ := List.mem_iff_getElem?.1 hv
  have hlt : j < l.length := by rw [h.1]; exact (ges.1 hj).1
  refine oneCell_of_leaf (leafV_rel (h.2 j _ v (gee hlt) hj) ?_)
  rw [List.all_eq_true] at hl
  exact hl _ (List.getElem_mem hlt)
theorem wr_inv {A' : AMem} {a o : Nat} {vs : List Value} (h : AMem.wr A a o vs = some A') : ∃ cs m, A[a]? = some (.cells cs m) ∧ m.ro = false ∧ o + vs.length ≤ cs.length ∧
    A' = A.set a (.cells (wrL cs o vs) { m with ver := m.ver + 1 }) := by
  unfold AMem.wr at h
  split at h
  · rename_i cs m hA
    split at h
    · rename_i hc
      exact ⟨cs, m, hA, hc.1, hc.2, (Option.some.inj h).symm⟩
    · cases h
  · cases h
theorem seg_get (cur : List Value) (k : Nat) (vs : List Value) (hk : k + vs.length ≤ cur.length) (j : Nat) :
    (cur.take k ++ vs ++ cur.drop (k + vs.length))[j]? = if k ≤ j ∧ j < k + vs.length then vs[j - k]? else cur[j]? := by
  have hlen : (List.take k cur).length = k := by simp; omega
  by_cases h1 : j < k
  · rw [if_neg (by omega), List.getElem?_append_left (by simp; omega), List.getElem?_append_left (by omega), List.getElem?_take, if_pos h1]
  · by_cases h2 : j < k + vs.length
    · rw [if_pos (by omega), List.getElem?_append_left (by simp; omega), List.getElem?_append_right (by omega), hlen]
    · rw [if_neg (by omega), List.getElem?_append_right (by simp; omega), List.getElem?_drop]
      congr 1
      simp; omega
theorem Sim.write (h : Sim P base A ι W) {a b o off : Nat} {vs vs' : List Value} {A' : AMem} (hi : ι a = some (b, o)) (hw : AMem.wr A a off vs = some A')
    (hv : LRel A ι W vs vs') (hl : vs.all leafV = true) :
    ∃ W', (storeCells ⟨b, o + off, none⟩ vs').run P W = .ok () W' ∧ Sim P base A' ι W' ∧ Ev base A ι W A' ι W' := by
  obtain ⟨cs, m, hA, hro, hlen, rfl⟩ := wr_inv hw
  have halt : a < A.length := h.lt hi
  obtain ⟨cs', t, fr, hb, h1, h2, h3⟩ := h.cells a b o cs m hi hA
  obtain ⟨rfl, hbase⟩ := h3 hro
  have hrun := run_storeCells_at P b (o + off) t vs' 0 cs' W hb (by rw [← hv.1]; omega) (hv.leaf hl)
  simp only [Nat.add_zero] at hrun
  have hblt : b < W.heap.size := (Array.getElem?_eq_some_iff.1 hb).1
  refine ⟨_, hrun, ?_⟩
  generalize hnew : (cs'.toList.take (o + off) ++ vs' ++ cs'.toList.drop (o + off + vs'.length)).toArray = new at *
  have hnget : ∀ j : Nat, new[j]? = if o + off ≤ j ∧ j < o + off + vs'.length then vs'[j - (o + off)]? else cs'[j]? := fun j => by
    rw [← hnew]
    have := seg_get cs'.toList (o + off) vs' (by rw [← hv.1]; simpa using by omega) j
    simpa using this
  have hnsz : new.size = cs'.size := by
    rw [← hnew]; simp; rw [← hv.1]; omega
  have hheap := setRow_heap W b cs' new t (0, 0) hb
  have hoth := fun k (hk : k ≠ b) => setRow_other W b k new hk
  have hsz : ∀ k, szW W k ≤ szW (W.setRow b new) k := fun k => by
    unfold szW
    by_cases e : k = b
    · subst e; rw [hb, hheap]; simp [hnsz]
    · rw [hoth k e]; exact Nat.le_refl _
  have hget : ∀ a' : Nat, a' ≠ a → (A.set a (AObj.cells (wrL cs off vs) { m with ver := m.ver + 1 }))[a']? = A[a']? := fun a' e => by
    rw [List.getElem?_set, if_neg (Ne.symm e)]
  have hself : (A.set a (AObj.cells (wrL cs off vs) { m with ver := m.ver + 1 }))[a]? = some (.cells (wrL cs off vs) { m with ver := m.ver + 1 }) := by
    rw [List.getElem?_set, if_pos rfl, if_pos halt]
  have hle : Le A ι W (A.set a (AObj.cells (wrL cs off vs) { m with ver := m.ver + 1 })) ι (W.setRow b new) :=
    Le.put a b o hget (fun _ _ => rfl) hi ⟨by rw [hA]; simp, .inr hi⟩ (by simp) hsz (fun cs0 m0 e => .inr ⟨_, _, hself, by rw [hA] at e; cases e; simp, fun e' => by rw [hA] at e; cases e; simp at e'⟩)
  refine ⟨h.put a b o _ hget hself (fun _ _ => rfl) hi hle (fun a' o' hne hi' => h.sep a a' b o o' (Ne.symm hne) hi hi' (.inl ⟨cs, m, hA, hro⟩))
    (fun k hk _ => hoth k hk) (by simp) ?_ (fun l e => by cases e) (fun cs0 m0 e => by cases e; exact wrL_leaf vs cs off (h.leaf a b o cs m hi hA) hl), ?_⟩
  · intro cs0 m0 e
    cases e
    refine ⟨new, t, (0, 0), hheap, by rw [wrL_length, hnsz]; exact h1, fun j v hj => ?_, fun _ => ⟨rfl, hbase⟩⟩
    rw [wrL_get vs cs off hlen] at hj
    rw [hnget]
    split at hj
    · rename_i hr
      rw [if_pos (by rw [← hv.1]; omega), show o + j - (o + off) = j - off by omega]
      obtain ⟨v', q1, q2⟩ := hv.get hj
      exact ⟨v', q1, q2.mono hle⟩
    · rename_i hr
      rw [if_neg (by rw [← hv.1]; omega)]
      obtain ⟨v', q1, q2⟩ := h2 j v hj
      exact ⟨v', q1, q2.mono hle⟩
  · refine ⟨hle, ⟨rfl, rfl, rfl, by simp, fun k hk => hoth k (by omega)⟩, fun r ds e => ?_, fun r l e => ?_⟩
    · by_cases er : r = b
      · subst er; rw [hb] at e; cases e
      · rw [hoth r er]; exact e
    · by_cases er : r = b
      · subst er; rw [hb] at e; cases e
      · exact ⟨l, by rw [hoth r er]; exact e⟩
theorem Sim.ld (h : Sim P base A ι W) {a b o i : Nat} {v : Value} (hi : ι a = some (b, o)) (hv : A.ld a i = some v) :
    ∃ v', W.cell? ⟨b, o + i, none⟩ = some v' ∧ VRel A ι W v v' := by
  unfold AMem.ld at hv
  split at hv
  · rename_i cs m hA
    obtain ⟨cs', t, fr, hb, h1, h2, h3⟩ := h.cells a b o cs m hi hA
    obtain ⟨v', q1, q2⟩ := h2 i v hv
    exact ⟨v', by simp [World.cell?, hb, q1], q2⟩
  · cases hv
theorem addr_add (b o i : Nat) : (⟨b, o, none⟩ : Addr).add i = ⟨b, o + i, none⟩ := by
  unfold Addr.add; split <;> simp_all
theorem Sim.lds (h : Sim P base A ι W) {a b o off : Nat} (hi : ι a = some (b, o)) (vs : List Value) (hv : ∀ j v, vs[j]? = some v → A.ld a (off + j) = some v) :
    ∃ vs', (loadCells ⟨b, o + off, none⟩ vs.length).run P W = .ok vs'.toArray W ∧ LRel A ι W vs vs' := by
  have hex : ∀ j, j < vs.length → ∃ v', W.cell? ⟨b, o + off + j, none⟩ = some v' ∧ ∀ v, vs[j]? = some v → VRel A ι W v v' := fun j hj => by
    obtain ⟨v', q1, q2⟩ := h.ld hi (hv j _ (gee hj))
    refine ⟨v', by rw [Nat.add_assoc]; exact q1, fun v e => ?_⟩
    rw [gee hj] at e
    cases e; exact q2
  have hch : ∃ f : Nat → Value, ∀ j, j < vs.length → W.cell? ⟨b, o + off + j, none⟩ = some (f j) ∧ ∀ v, vs[j]? = some v → VRel A ι W v (f j) := by
    refine ⟨fun j => if hj : j < vs.length then (hex j hj).choose else undef, fun j hj => ?_⟩
    simp only [dif_pos hj]
    exact (hex j hj).choose_spec
  obtain ⟨f, hf⟩ := hch
  have hrun := run_loadCells (P := P) W ⟨b, o + off, none⟩ vs.length f (fun j hj => by rw [addr_add]; exact (hf j hj).1)
  refine ⟨(List.range vs.length).map f, hrun, by simp, fun j v v' e e' => ?_⟩
  have hj : j < vs.length := (ges.1 e).1
  simp [hj] at e'
  subst e'
  exact (hf j hj).2 v e
theorem rd_inv {a o n : Nat} {vs : List Value} (h : A.rd a o n = some vs) : vs.length = n ∧ ∀ j v, vs[j]? = some v → A.ld a (o + j) = some v := by
  unfold AMem.rd at h
  split at h
  · rename_i cs m hA
    split at h
    · rename_i hc
      cases h
      refine ⟨by simp; omega, fun j v e => ?_⟩
      rw [List.getElem?_take] at e
      split at e
      · rw [List.getElem?_drop] at e
        simp [AMem.ld, hA, e]
      · cases e
    · cases h
  · cases h
end
section
variable {P : Program} {base : Nat} {A : AMem} {ι : Iota} {W : World}
def Sub (u v : Value) : Prop := ∀ (A : AMem) (ι : Iota) (W : World) (v' : Value), VRel A ι W v v' → VRel A ι W u v'
theorem Sub.refl (v : Value) : Sub v v := fun _ _ _ _ h => h
theorem ldLeaf_ok {lf : Leaf} {src : Option Value} {K : Value → Res} {r : Value × AMem} (h : ldLeaf lf src K = some r) :
    ∃ u w, src = some w ∧ K u = some r ∧ Sub u w ∧ leafV u = true := by
  cases lf with
  | int k =>
    simp only [ldLeaf, bsi] at h
    obtain ⟨n, h1, h2⟩ := h
    unfold intOf? at h1
    split at h1
    · split at h1
      · rename_i k' m hk
        cases h1; subst hk
        exact ⟨_, _, rfl, h2, Sub.refl _, rfl⟩
      · cases h1
    · cases h1
  | bool =>
    simp only [ldLeaf, bsi] at h
    obtain ⟨n, h1, h2⟩ := h
    unfold boolOf? at h1
    split at h1
    · cases h1; exact ⟨_, _, rfl, h2, Sub.refl _, rfl⟩
    · cases h1
  | str =>
    simp only [ldLeaf, bsi] at h
    obtain ⟨n, h1, h2⟩ := h
    unfold strOf? at h1
    split at h1
    · cases h1; exact ⟨_, _, rfl, h2, Sub.refl _, rfl⟩
    · cases h1
  | ptr =>
    simp only [ldLeaf, bsi] at h
    obtain ⟨n, h1, h2⟩ := h
    unfold ptrOf? at h1
    split at h1
    · cases h1; exact ⟨_, _, rfl, h2, Sub.refl _, rfl⟩
    · cases h1
  | slice =>
    simp only [ldLeaf, bsi] at h
    obtain ⟨n, h1, h2⟩ := h
    unfold sliceOf? at h1
    split at h1
    · cases h1; exact ⟨_, _, rfl, h2, Sub.refl _, rfl⟩
    · cases h1
  | any =>
    simp only [ldLeaf, bsi] at h
    obtain ⟨n, h1, h2⟩ := h
    unfold anyOf? at h1
    split at h1
    · split at h1
      · cases h1; rename_i hl; exact ⟨_, _, rfl, h2, Sub.refl _, hl⟩
      · cases h1
    · cases h1
theorem ldLeaves_ok {get : Nat → Option Value} {r : Value × AMem} : ∀ (lfs : List Leaf) (i : Nat) (K : List Value → Res), ldLeaves get lfs i K = some r →
    ∃ us ws : List Value, us.length = lfs.length ∧ ws.length = lfs.length ∧ K us = some r ∧ us.all leafV = true ∧ (∀ j w, ws[j]? = some w → get (i + j) = some w) ∧
      ∀ (j : Nat) (u w : Value), us[j]? = some u → ws[j]? = some w → Sub u w
  | [], i, K, h => ⟨[], [], rfl, rfl, h, rfl, fun j w e => by simp at e, fun j u w e => by simp at e⟩
  | lf :: rest, i, K, h => by
    simp only [ldLeaves] at h
    obtain ⟨u, w, h1, h2, h3, h4⟩ := ldLeaf_ok h
    obtain ⟨us, ws, k1, k2, k3, k4, k5, k6⟩ := ldLeaves_ok rest (i + 1) _ h2
    refine ⟨u :: us, w :: ws, by simp [k1], by simp [k2], k3, by simp [h4, k4], fun j x e => ?_, fun j x y e e' => ?_⟩
    · cases j with
      | zero => simp at e; subst e; simpa using h1
      | succ j => simp at e; have := k5 j x e; rw [← this]; congr 1; omega
    · cases j with
      | zero => simp at e e'; subst e; subst e'; exact h3
      | succ j => simp at e e'; exact k6 j x y e e'
theorem LRel.sub {us ws l' : List Value} (hl : us.length = ws.length) (h : ∀ (j : Nat) (u w : Value), us[j]? = some u → ws[j]? = some w → Sub u w) (k : LRel A ι W ws l') :
    LRel A ι W us l' := by
  refine ⟨by rw [hl]; exact k.1, fun j v v' e e' => ?_⟩
  have hj : j < ws.length := by rw [← hl]; exact (ges.1 e).1
  have ew := gee hj
  exact h j _ _ e ew _ _ _ _ (k.2 j _ v' ew e')
theorem agg_of_LRel {us : List Value} {cs' : Array Value} (h : LRel A ι W us cs'.toList) : VRel A ι W (.agg us.toArray) (.agg cs') :=
  .agg _ _ (by simpa using h.1) fun j v v' e e' => h.2 j v v' (by simpa using e) (by simpa using e')
theorem tuple_of_LRel {us : List Value} {cs' : Array Value} (h : LRel A ι W us cs'.toList) : VRel A ι W (.tuple us.toArray) (.tuple cs') :=
  .tuple _ _ (by simpa using h.1) fun j v v' e e' => h.2 j v v' (by simpa using e) (by simpa using e')
theorem agg_inv {x : Array Value} {v' : Value} (h : VRel A ι W (.agg x) v') : ∃ x', v' = .agg x' ∧ LRel A ι W x.toList x'.toList := by
  cases h with
  | flat _ hf => simp [flatLeaf] at hf
  | agg _ x' hx rx => exact ⟨x', rfl, by simpa using hx, fun j v v' e e' => rx j v v' (by simpa using e) (by simpa using e')⟩
theorem tuple_inv {x : Array Value} {v' : Value} (h : VRel A ι W (.tuple x) v') : ∃ x', v' = .tuple x' ∧ LRel A ι W x.toList x'.toList := by
  cases h with
  | flat _ hf => simp [flatLeaf] at hf
  | tuple _ x' hx rx => exact ⟨x', rfl, by simpa using hx, fun j v v' e e' => rx j v v' (by simpa using e) (by simpa using e')⟩
theorem view1_ok {ty : Bool × List Leaf} {v : Value} {K : Value → Res} {r : Value × AMem} (h : view1 ty v K = some r) : ∃ u, K u = some r ∧ Sub u v := by
  obtain ⟨g, lfs⟩ := ty
  unfold view1 at h
  cases g with
  | true =>
    simp only [if_true] at h
    obtain ⟨cs, h1, h2⟩ := bsi.1 h
    unfold aggOf? at h1
    split at h1
    · rename_i x
      split at h1
      · rename_i hsz
        cases h1
        obtain ⟨us, ws, k1, k2, k3, k4, k5, k6⟩ := ldLeaves_ok _ _ _ h2
        refine ⟨_, k3, fun A ι W v' hv => ?_⟩
        obtain ⟨x', rfl, hx⟩ := agg_inv hv
        have hws : ws = x.toList := by
          refine List.ext_getElem? fun j => ?_
          by_cases hj : j < ws.length
          · have := k5 j _ (gee hj)
            rw [gee hj]; rw [Nat.zero_add] at this; exact this.symm
          · rw [List.getElem?_eq_none (by omega), List.getElem?_eq_none (by simp only [Array.length_toList]; omega)]
        subst hws
        exact agg_of_LRel (LRel.sub (k1.trans k2.symm) k6 hx)
      · cases h1
    · cases h1
  | false =>
    simp only [Bool.false_eq_true, if_false] at h
    split at h
    · obtain ⟨u, w, h1, h2, h3, h4⟩ := ldLeaf_ok h
      cases h1
      exact ⟨u, h2, h3⟩
    · cases h
theorem viewN_ok {cs : List Value} {r : Value × AMem} : ∀ (ret : List (Bool × List Leaf)) (i : Nat) (K : List Value → Res), viewN cs ret i K = some r →
    ∃ us ws : List Value, us.length = ret.length ∧ ws.length = ret.length ∧ K us = some r ∧ (∀ j w, ws[j]? = some w → cs[i + j]? = some w) ∧
      ∀ (j : Nat) (u w : Value), us[j]? = some u → ws[j]? = some w → Sub u w
  | [], i, K, h => ⟨[], [], rfl, rfl, h, fun j w e => by simp at e, fun j u w e => by simp at e⟩
  | ty :: rest, i, K, h => by
    simp only [viewN] at h
    obtain ⟨w, h1, h2⟩ := bsi.1 h
    obtain ⟨u, h3, h4⟩ := view1_ok h2
    obtain ⟨us, ws, k1, k2, k3, k5, k6⟩ := viewN_ok rest (i + 1) _ h3
    refine ⟨u :: us, w :: ws, by simp [k1], by simp [k2], k3, fun j x e => ?_, fun j x y e e' => ?_⟩
    · cases j with
      | zero => simp at e; subst e; simpa using h1
      | succ j => simp at e; have := k5 j x e; rw [← this]; congr 1; omega
    · cases j with
      | zero => simp at e e'; subst e; subst e'; exact h4
      | succ j => simp at e e'; exact k6 j x y e e'
theorem view_ok {ret : List (Bool × List Leaf)} {single : Bool} {v : Value} {K : Value → Res} {r : Value × AMem} (h : view ret single v K = some r) :
    ∃ u, K u = some r ∧ Sub u v := by
  unfold view at h
  cases single with
  | true =>
    simp only [if_true] at h
    split at h
    · exact view1_ok h
    · cases h
  | false =>
    simp only [Bool.false_eq_true, if_false] at h
    obtain ⟨cs, h1, h2⟩ := bsi.1 h
    unfold tupOf? at h1
    split at h1
    · rename_i x
      split at h1
      · rename_i hsz
        cases h1
        obtain ⟨us, ws, k1, k2, k3, k5, k6⟩ := viewN_ok _ _ _ h2
        refine ⟨_, k3, fun A ι W v' hv => ?_⟩
        obtain ⟨x', rfl, hx⟩ := tuple_inv hv
        · have hws : ws = x.toList := by
            refine List.ext_getElem? fun j => ?_
            by_cases hj : j < ws.length
            · have := k5 j _ (gee hj)
              rw [gee hj]; rw [Nat.zero_add] at this; exact this.symm
            · rw [List.getElem?_eq_none (by omega), List.getElem?_eq_none (by simp only [Array.length_toList]; omega)]
          subst hws
          exact tuple_of_LRel (LRel.sub (k1.trans k2.symm) k6 hx)
      · cases h1
    · cases h1
theorem ev_rel {t : List Value} {act : Act} (h : LRel A ι W t act.tmps.toList) (x : Operand) : VRel A ι W (ev t x) (act.eval x) := by
  cases x with
  | tmp i =>
    simp only [ev, Act.eval]
    by_cases hi : i < t.length
    · have hi' : i < act.tmps.size := Nat.lt_of_lt_of_eq hi (h.1.trans Array.length_toList)
      have := h.2 i t[i] act.tmps[i] (gee hi) (by simp [hi'])
      simpa [List.getD, hi, Array.getD, hi'] using this
    · have hi' : ¬ i < act.tmps.size := fun q => hi (Nat.lt_of_lt_of_eq q (h.1.trans Array.length_toList).symm)
      simp [List.getD, List.getElem?_eq_none (Nat.le_of_not_lt hi), hi']
      exact VRel.undef'
  | const v =>
    simp only [ev, Act.eval]
    split
    · rename_i hf; exact VRel.flatV' hf
    · exact .junk _
  | global g => exact .junk _
  | func f => exact .func f #[] #[] #[] #[] rfl rfl (fun j v v' e => by simp at e) (fun j v v' e => by simp at e)
theorem ev_list {t : List Value} {act : Act} (h : LRel A ι W t act.tmps.toList) (xs : List Operand) : LRel A ι W (xs.map (ev t)) (xs.map act.eval) :=
  LRel.of_map _ _ xs fun x _ => ev_rel h x
theorem int_inv {k : IntKind} {n : Int} {v' : Value} (h : VRel A ι W (.int k n) v') : v' = .int k n := (flatLeaf_eq h rfl).symm
theorem bool_inv {b : Bool} {v' : Value} (h : VRel A ι W (.bool b) v') : v' = .bool b := (flatLeaf_eq h rfl).symm
theorem string_inv {s : ByteArray} {v' : Value} (h : VRel A ι W (.string s) v') : v' = .string s := (flatLeaf_eq h rfl).symm
theorem nilptr_inv {v' : Value} (h : VRel A ι W (.pointer none) v') : v' = .pointer none := (flatLeaf_eq h rfl).symm
theorem ptr_inv {p : Addr} {v' : Value} (h : VRel A ι W (.pointer (some p)) v') :
    ∃ q, v' = .pointer (some q) ∧ (A[p.block]? = some .dead ∨ ∃ b o, ι p.block = some (b, o) ∧ q = ⟨b, o + p.off, none⟩) := by
  cases h with
  | flat _ hf => simp [flatLeaf] at hf
  | ptr p b o hi => exact ⟨_, rfl, .inr ⟨b, o, hi, rfl⟩⟩
  | ptrDead p q h => exact ⟨q, rfl, .inl h⟩
theorem slice_inv {p : Addr} {n c : Nat} {v' : Value} (h : VRel A ι W (.slice (some p) n c) v') :
    ∃ q c', v' = .slice (some q) n c' ∧ n ≤ c' ∧ ((n = 0 ∧ c' = 0) ∨ (p.spot = none ∧ (A[p.block]? = some .dead ∨
      ∃ b o, ι p.block = some (b, o) ∧ q = ⟨b, o + p.off, none⟩ ∧ (c ≠ 0 → o + p.off + c' * c ≤ szW W b)))) := by
  cases h with
  | flat _ hf => simp [flatLeaf] at hf
  | slice p n c c' b o hi hs hc hb => exact ⟨_, c', rfl, hc, .inr ⟨hs, .inr ⟨b, o, hi, rfl, hb⟩⟩⟩
  | sliceDead p q n c c' h hs hc => exact ⟨q, c', rfl, hc, .inr ⟨hs, .inl h⟩⟩
  | sliceEmpty p q c => exact ⟨q, 0, rfl, Nat.le_refl _, .inl ⟨rfl, rfl⟩⟩
theorem nilslice_inv {n c : Nat} {v' : Value} (h : VRel A ι W (.slice none n c) v') : n = 0 ∧ c = 0 ∧ v' = .slice none 0 0 := by
  cases h with
  | flat _ hf =>
    cases n with
    | zero =>
      cases c with
      | zero => exact ⟨rfl, rfl, rfl⟩
      | succ c => simp [flatLeaf] at hf
    | succ n => simp [flatLeaf] at hf
theorem func_inv {g : FuncId} {x y : Array Value} {v' : Value} (h : VRel A ι W (.func (.func g) x y) v') :
    ∃ x' y', v' = .func (.func g) x' y' ∧ LRel A ι W x.toList x'.toList ∧ LRel A ι W y.toList y'.toList := by
  cases h with
  | flat _ hf => simp [flatLeaf] at hf
  | func g x x' y y' hx hy rx ry =>
    exact ⟨x', y', rfl, ⟨by simpa using hx, fun j v v' e e' => rx j v v' (by simpa using e) (by simpa using e')⟩, ⟨by simpa using hy, fun j v v' e e' => ry j v v' (by simpa using e) (by simpa using e')⟩⟩
theorem yield_inv {l : Nat} {x y : Array Value} {v' : Value} (h : VRel A ι W (.func (.yield l) x y) v') :
    x = #[] ∧ y = #[] ∧ ∃ l', v' = .func (.yield l') #[] #[] ∧ (A[l]? = some .dead ∨ ι l = some (l', 0)) := by
  cases h with
  | flat _ hf => simp [flatLeaf] at hf
  | yield l l' hi => exact ⟨rfl, rfl, l', rfl, .inr hi⟩
  | yieldDead l l' h => exact ⟨rfl, rfl, l', rfl, .inl h⟩
end
end Go.Ax
