/- What the continuation-passing steps amount to: a result, and what comes after it. -/
import Derived.Test.YtjmeilpffmhojaaAxRel
set_option linter.unusedVariables false
set_option linter.unusedSimpArgs false
namespace Go.Ax
open Go

def Na {X : Type} (f : (X → Res) → Res) : Prop := ∃ o : Option X, ∀ K, f K = o.bind K

theorem ldLeaf_na (lf : Leaf) (src : Option Value) : Na (ldLeaf lf src) := by
  cases lf with
  | int k => exact ⟨(intOf? k src).map (.int k), fun K => by simp only [ldLeaf]; cases intOf? k src <;> rfl⟩
  | bool => exact ⟨(boolOf? src).map .bool, fun K => by simp only [ldLeaf]; cases boolOf? src <;> rfl⟩
  | str => exact ⟨(strOf? src).map .string, fun K => by simp only [ldLeaf]; cases strOf? src <;> rfl⟩
  | ptr => exact ⟨(ptrOf? src).map .pointer, fun K => by simp only [ldLeaf]; cases ptrOf? src <;> rfl⟩
  | slice => exact ⟨(sliceOf? src).map fun p => .slice p.1 p.2.1 p.2.2, fun K => by simp only [ldLeaf]; cases sliceOf? src <;> rfl⟩
  | any => exact ⟨anyOf? src, fun K => rfl⟩

theorem ldLeaves_na (get : Nat → Option Value) : ∀ (lfs : List Leaf) (i : Nat), Na (ldLeaves get lfs i)
  | [], i => ⟨some [], fun K => rfl⟩
  | lf :: r, i => by
    obtain ⟨o1, h1⟩ := ldLeaf_na lf (get i)
    obtain ⟨o2, h2⟩ := ldLeaves_na get r (i + 1)
    exact ⟨o1.bind fun v => o2.map fun vs => v :: vs, fun K => by simp only [ldLeaves, h1, h2]; cases o1 <;> cases o2 <;> rfl⟩

theorem view1_na (ty : Bool × List Leaf) (v : Value) : Na (view1 ty v) := by
  obtain ⟨g, lfs⟩ := ty
  unfold view1
  cases g with
  | true =>
    simp only [if_true]
    cases h : aggOf? lfs.length v with
    | none => exact ⟨none, fun K => rfl⟩
    | some cs =>
      obtain ⟨o, ho⟩ := ldLeaves_na (fun j => cs[j]?) lfs 0
      exact ⟨o.map fun vs => .agg vs.toArray, fun K => by simp only [Option.bind_some, ho]; cases o <;> rfl⟩
  | false =>
    simp only [Bool.false_eq_true, if_false]
    match lfs with
    | [lf] => exact ldLeaf_na lf (some v)
    | [] => exact ⟨none, fun K => rfl⟩
    | _ :: _ :: _ => exact ⟨none, fun K => rfl⟩

theorem viewN_na (cs : List Value) : ∀ (ret : List (Bool × List Leaf)) (i : Nat), Na (viewN cs ret i)
  | [], i => ⟨some [], fun K => rfl⟩
  | ty :: r, i => by
    obtain ⟨o2, h2⟩ := viewN_na cs r (i + 1)
    cases h : cs[i]? with
    | none => exact ⟨none, fun K => by simp only [viewN, h]; rfl⟩
    | some u =>
      obtain ⟨o1, h1⟩ := view1_na ty u
      exact ⟨o1.bind fun v => o2.map fun vs => v :: vs, fun K => by simp only [viewN, h, Option.bind_some, h1, h2]; cases o1 <;> cases o2 <;> rfl⟩

theorem view_na (ret : List (Bool × List Leaf)) (single : Bool) (v : Value) : Na (view ret single v) := by
  unfold view
  cases single with
  | true =>
    simp only [if_true]
    match ret with
    | [ty] => exact view1_na ty v
    | [] => exact ⟨none, fun K => rfl⟩
    | _ :: _ :: _ => exact ⟨none, fun K => rfl⟩
  | false =>
    simp only [Bool.false_eq_true, if_false]
    cases h : tupOf? ret.length v with
    | none => exact ⟨none, fun K => rfl⟩
    | some cs =>
      obtain ⟨o, ho⟩ := viewN_na cs ret 0
      exact ⟨o.map fun vs => .tuple vs.toArray, fun K => by simp only [Option.bind_some, ho]; cases o <;> rfl⟩

/-- The result alone. -/
def opV (rec : Rec) (op : AOp) (t : List Value) (M : AMem) : Res := opK rec op t M fun v M => some (v, M)

theorem na_eq {X : Type} {f : (X → Res) → Res} (h : Na f) (g : X → Value × AMem) (K : Value × AMem → Res) : f (fun x => K (g x)) = (f fun x => some (g x)).bind K := by
  obtain ⟨o, ho⟩ := h
  rw [ho, ho]
  cases o <;> rfl

theorem bind_na {X : Type} (o : Option X) (F G : X → Res) (K : Value × AMem → Res) (h : ∀ x, F x = (G x).bind K) : o.bind F = (o.bind G).bind K := by
  cases o with
  | none => rfl
  | some x => exact h x

theorem binK_na (op : BinOp) (x y : Value) (g : Value → Value × AMem) (K : Value × AMem → Res) : (binK op x y fun v => K (g v)) = (binK op x y fun v => some (g v)).bind K := by
  unfold binK
  cases x <;> cases y <;> try rfl
  cases op <;> simp only [] <;> (repeat' split) <;> rfl

theorem unK_na (op : UnOp) (x : Value) (g : Value → Value × AMem) (K : Value × AMem → Res) : (unK op x fun v => K (g v)) = (unK op x fun v => some (g v)).bind K := by
  unfold unK
  cases op <;> cases x <;> rfl

/-- Every one of them goes on with its result. -/
theorem opK_na (rec : Rec) (op : AOp) (t : List Value) (M : AMem) (K : Value → AMem → Res) : opK rec op t M K = (opV rec op t M).bind fun p => K p.1 p.2 := by
  unfold opV
  cases op with
  | bin o x y => simp only [opK]; exact binK_na o _ _ (fun v => (v, M)) (fun p => K p.1 p.2)
  | un o x => simp only [opK]; exact unK_na o _ (fun v => (v, M)) (fun p => K p.1 p.2)
  | load agg lfs a =>
    simp only [opK]
    split
    · split
      · exact na_eq (ldLeaves_na _ lfs 0) (fun vs => (.agg vs.toArray, M)) (fun p => K p.1 p.2)
      · split
        · exact na_eq (ldLeaf_na _ _) (fun v => (v, M)) (fun p => K p.1 p.2)
        · rfl
    · rfl
  | call flat f args ret single =>
    simp only [opK]
    split
    · split
      · split
        · split
          · exact bind_na _ _ _ _ fun r => na_eq (view_na ret single r.1) (fun v => (v, M)) (fun p => K p.1 p.2)
          · rfl
        · exact bind_na _ _ _ _ fun r => na_eq (view_na ret single r.1) (fun v => (v, r.2)) (fun p => K p.1 p.2)
      · split
        · rfl
        · exact bind_na _ _ _ _ fun r => na_eq (view_na ret single r.1) (fun v => (v, r.2)) (fun p => K p.1 p.2)
      · rfl
    · rfl
  | pick c a b =>
    simp only [opK]
    cases ev t c <;> try rfl
    cases ev t a <;> cases ev t b <;> rfl
  | field agg off n x =>
    simp only [opK]
    cases ev t x <;> try rfl
    simp only []
    split
    · split <;> rfl
    · rename_i cs _
      cases cs.toList[off]? <;> rfl
  | index agg len esz x i =>
    simp only [opK, idxK_eq]
    cases ev t x <;> try rfl
    cases ev t i <;> try rfl
    simp only []
    split
    · split
      · split <;> rfl
      · exact bind_na _ _ _ _ fun _ => rfl
    · rfl
  | append esz bytes s x =>
    simp only [opK]
    cases ev t s <;> try rfl
    simp only []
    cases lenV (ev t x) <;> try rfl
    simp only [Option.bind_some]
    cases rowOf M esz (ev t x) <;> try rfl
    simp only [Option.bind_some]
    unfold appendK
    repeat' split
    all_goals rfl
  | copy esz d s =>
    simp only [opK]
    cases ev t d <;> try rfl
    simp only []
    cases lenV (ev t s) <;> try rfl
    simp only [Option.bind_some]
    cases rowOf M esz (ev t s) <;> try rfl
    simp only [Option.bind_some]
    unfold copyK
    split
    · rfl
    · split
      · cases AMem.wr M _ _ _ <;> rfl
      · rfl
  | store n a x =>
    simp only [opK]
    cases ev t a <;> try rfl
    rename_i p
    cases p <;> try rfl
    simp only []
    split
    · cases AMem.wr M _ _ _ <;> rfl
    · rfl
  | nilCheck x =>
    simp only [opK]
    cases ev t x <;> try rfl
    · rename_i p; cases p <;> rfl
    · rename_i f _ _; cases f <;> rfl
  | eqAgg lfs neg x y =>
    simp only [opK]
    cases ev t x <;> try rfl
    cases ev t y <;> try rfl
    simp only []
    cases leavesEq lfs _ _ <;> rfl
  | slice esz x lo hi =>
    simp only [opK]
    cases ev t x <;> try rfl
    simp only []
    cases boundOf t 0 lo <;> try rfl
    simp only [Option.bind_some]
    cases boundOf t _ hi <;> try rfl
    simp only [Option.bind_some]
    split <;> rfl
  | sliceArr len esz x lo hi =>
    simp only [opK]
    cases ev t x <;> try rfl
    rename_i p
    cases p <;> try rfl
    simp only []
    cases boundOf t 0 lo <;> try rfl
    simp only [Option.bind_some]
    cases boundOf t _ hi <;> try rfl
    simp only [Option.bind_some]
    split <;> rfl
  | buildSlice esz len zero parts => simp only [opK, newK]; cases fillL zero _ <;> rfl
  | build zero parts => simp only [opK]; cases fillL zero _ <;> rfl
  | eqNil kind neg x => simp only [opK]; cases isNil kind _ <;> rfl
  | minmax mx xs => simp only [opK]; cases mm mx _ <;> rfl
  | len x => simp only [opK]; cases lenV _ <;> rfl
  | extract x i =>
    simp only [opK]
    cases ev t x <;> try rfl
    rename_i vs
    simp only []
    cases vs.toList[i]? <;> rfl
  | indexStr x i =>
    simp only [opK]
    cases ev t x <;> try rfl
    cases ev t i <;> try rfl
    rename_i s _ j
    simp only []
    split
    · cases s.data.toList[j.toNat]? <;> rfl
    · rfl
  | box x => simp only [opK, newK]; split <;> rfl
  | makeSlice esz bytes zero l c =>
    simp only [opK, newK]
    cases ev t l <;> try rfl
    cases ev t c <;> try rfl
    simp only []
    split <;> rfl
  | indexAddr esz x i =>
    simp only [opK]
    cases ev t x with
    | slice p n c =>
      cases ev t i <;> cases p <;> try rfl
      simp only []
      split <;> rfl
    | _ => rfl
  | indexArr len esz x i =>
    simp only [opK]
    cases ev t x with
    | pointer p =>
      cases ev t i <;> cases p <;> try rfl
      simp only []
      split <;> rfl
    | _ => rfl
  | binB neg x y =>
    simp only [opK]
    cases ev t x <;> cases ev t y <;> rfl
  | conv k x =>
    simp only [opK]
    cases ev t x <;> rfl
  | fieldAddr off x =>
    simp only [opK]
    cases ev t x <;> try rfl
    rename_i p
    cases p <;> rfl
  | slice0 x =>
    simp only [opK]
    cases ev t x <;> try rfl
    rename_i p _ _
    cases p <;> rfl
  | lenS x =>
    simp only [opK]
    cases ev t x <;> rfl
  | mv x => rfl
  | alloc zero => rfl
  | makeFunc fn first cap => rfl
  | lenC n => rfl

end Go.Ax
