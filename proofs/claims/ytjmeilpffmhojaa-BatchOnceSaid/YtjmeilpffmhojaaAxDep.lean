/- What a step hangs on; what it leaves as it was. -/
import Derived.Test.YtjmeilpffmhojaaAxNat
import Derived.Test.YtjmeilpffmhojaaAxComp
set_option linter.unusedVariables false
set_option linter.unusedSimpArgs false
namespace Go.Ax
open Go

theorem ev_same {t t2 : List Value} {x : Operand} (h : ∀ d ∈ opndTmps [x], t[d]? = t2[d]?) : ev t x = ev t2 x := by
  cases x with
  | tmp i =>
    have := h i (by simp [opndTmps])
    simp only [ev, List.getD_eq_getElem?_getD, this]
  | _ => rfl

theorem mem_opnd {l : List Operand} {x : Operand} (hx : x ∈ l) {d : Nat} (hd : d ∈ opndTmps [x]) : d ∈ opndTmps l := by
  unfold opndTmps at *
  obtain ⟨y, h1, h2⟩ := List.mem_filterMap.1 hd
  have : y = x := by simpa using h1
  subst this
  exact List.mem_filterMap.2 ⟨y, hx, h2⟩

theorem ev_in {t t2 : List Value} {l : List Operand} (h : ∀ d ∈ opndTmps l, t[d]? = t2[d]?) {x : Operand} (hx : x ∈ l) : ev t x = ev t2 x := ev_same fun d hd => h d (mem_opnd hx hd)

theorem evs_in {t t2 : List Value} {l l0 : List Operand} (h : ∀ d ∈ opndTmps l, t[d]? = t2[d]?) (hl : ∀ x ∈ l0, x ∈ l) : l0.map (ev t) = l0.map (ev t2) :=
  List.map_congr_left fun x hx => ev_in h (hl x hx)

theorem bound_in {t t2 : List Value} {l : List Operand} (h : ∀ d ∈ opndTmps l, t[d]? = t2[d]?) (d : Nat) (o : Option Operand) (hl : ∀ x ∈ o.toList, x ∈ l) : boundOf t d o = boundOf t2 d o := by
  cases o with
  | none => rfl
  | some x => simp only [boundOf, ev_in h (hl x (by simp))]

theorem opV_congr (rec : Rec) (op : AOp) {t t2 : List Value} (M : AMem) (h : ∀ d ∈ readsOf op, t[d]? = t2[d]?) : opV rec op t M = opV rec op t2 M := by
  unfold opV
  cases op <;> simp only [readsOf] at h <;> simp only [opK, newK]
  case pick c a b => rw [ev_in h (x := c) (by simp), ev_in h (x := a) (by simp), ev_in h (x := b) (by simp)]
  case bin o x y => rw [ev_in h (x := x) (by simp), ev_in h (x := y) (by simp)]
  case binB o x y => rw [ev_in h (x := x) (by simp), ev_in h (x := y) (by simp)]
  case eqAgg o n x y => rw [ev_in h (x := x) (by simp), ev_in h (x := y) (by simp)]
  case build z ps =>
    have : (ps.map fun p => (p.1, p.2.1, ev t p.2.2)) = ps.map fun p => (p.1, p.2.1, ev t2 p.2.2) := List.map_congr_left fun p hp => by
      rw [ev_in h (x := p.2.2) (List.mem_map.2 ⟨p, hp, rfl⟩)]
    rw [this]
  case buildSlice e n z ps =>
    have : (ps.map fun p => (p.1, p.2.1, ev t p.2.2)) = ps.map fun p => (p.1, p.2.1, ev t2 p.2.2) := List.map_congr_left fun p hp => by
      rw [ev_in h (x := p.2.2) (List.mem_map.2 ⟨p, hp, rfl⟩)]
    rw [this]
  case store n x y => rw [ev_in h (x := x) (by simp), ev_in h (x := y) (by simp)]
  case indexAddr e x y => rw [ev_in h (x := x) (by simp), ev_in h (x := y) (by simp)]
  case indexArr n e x y => rw [ev_in h (x := x) (by simp), ev_in h (x := y) (by simp)]
  case index g n e x y => rw [ev_in h (x := x) (by simp), ev_in h (x := y) (by simp)]
  case indexStr x y => rw [ev_in h (x := x) (by simp), ev_in h (x := y) (by simp)]
  case makeSlice e b z x y => rw [ev_in h (x := x) (by simp), ev_in h (x := y) (by simp)]
  case append e b x y => rw [ev_in h (x := x) (by simp), ev_in h (x := y) (by simp)]
  case copy e x y => rw [ev_in h (x := x) (by simp), ev_in h (x := y) (by simp)]
  case slice e x lo hi => rw [ev_in h (x := x) (by simp), bound_in h 0 lo (by intro x hx; simp_all)]; cases ev t2 x <;> try rfl
                          simp only []; rw [bound_in h _ hi (by intro x hx; simp_all)]
  case sliceArr n e x lo hi => rw [ev_in h (x := x) (by simp), bound_in h 0 lo (by intro x hx; simp_all), bound_in h _ hi (by intro x hx; simp_all)]
  case makeFunc fn a b => rw [evs_in h (l0 := a) (by intro x hx; simp_all), evs_in h (l0 := b) (by intro x hx; simp_all)]
  case call flat f args ret s => rw [ev_in h (x := f) (by simp), evs_in h (l0 := args) (by intro x hx; simp_all)]
  case minmax mx xs => rw [evs_in h (l0 := xs) (by intro x hx; exact hx)]
  all_goals (first | rfl | rw [ev_same h])

theorem bind_map {X : Type} (o : Option X) (F : X → Option (Value × AMem)) (G : X → Option (Value × AMem)) (g : Value × AMem → Value × AMem) (h : ∀ x, F x = (G x).map g) : o.bind F = (o.bind G).map g := by
  cases o with
  | none => rfl
  | some x => exact h x

theorem na_map {X : Type} {f : (X → Res) → Res} (h : Na f) (k : X → Value) (M M2 : AMem) : (f fun x => some (k x, M)) = (f fun x => some (k x, M2)).map fun p => (p.1, M) := by
  obtain ⟨o, ho⟩ := h
  rw [ho, ho]
  cases o <;> rfl

theorem opV_pure (rec : Rec) (op : AOp) (t : List Value) (M M2 : AMem) (hp : kindOf op = .pure) : opV rec op t M = (opV rec op t M2).map fun p => (p.1, M) := by
  unfold opV
  cases op <;> simp only [kindOf] at hp <;> try (cases hp; done)
  case call flat f args ret single =>
    have hf : flat = true := by cases flat <;> simp_all
    subst hf
    simp only [opK, if_true]
    split
    · split
      · split
        · exact bind_map _ _ _ _ fun r => na_map (view_na ret single r.1) id M M2
        · rfl
      · rfl
      · rfl
    · rfl
  case pick c a b =>
    simp only [opK]
    cases ev t c <;> try rfl
    cases ev t a <;> cases ev t b <;> rfl
  case field agg off n x =>
    simp only [opK]
    cases ev t x <;> try rfl
    simp only []
    split
    · split <;> rfl
    · exact bind_map _ _ _ _ fun r => rfl
  case index agg len esz x i =>
    simp only [opK, idxK_eq]
    cases ev t x <;> try rfl
    cases ev t i <;> try rfl
    simp only []
    split
    · split
      · split <;> rfl
      · exact bind_map _ _ _ _ fun r => rfl
    · rfl
  case nilCheck x =>
    simp only [opK]
    cases ev t x <;> try rfl
    · rename_i p; cases p <;> rfl
    · rename_i f _ _; cases f <;> rfl
  case eqAgg lfs neg x y =>
    simp only [opK]
    cases ev t x <;> try rfl
    cases ev t y <;> try rfl
    exact bind_map _ _ _ _ fun r => rfl
  case slice esz x lo hi =>
    simp only [opK]
    cases ev t x <;> try rfl
    refine bind_map _ _ _ _ fun r => bind_map _ _ _ _ fun r => ?_
    split <;> rfl
  case sliceArr len esz x lo hi =>
    simp only [opK]
    cases ev t x <;> try rfl
    rename_i p
    cases p <;> try rfl
    refine bind_map _ _ _ _ fun r => bind_map _ _ _ _ fun r => ?_
    split <;> rfl
  case build zero parts => simp only [opK]; exact bind_map _ _ _ _ fun r => rfl
  case eqNil kind neg x => simp only [opK]; exact bind_map _ _ _ _ fun r => rfl
  case minmax mx xs => simp only [opK]; exact bind_map _ _ _ _ fun r => rfl
  case len x => simp only [opK]; exact bind_map _ _ _ _ fun r => rfl
  case extract x i =>
    simp only [opK]
    cases ev t x <;> try rfl
    exact bind_map _ _ _ _ fun r => rfl
  case indexStr x i =>
    simp only [opK]
    cases ev t x <;> try rfl
    cases ev t i <;> try rfl
    simp only []
    split
    · exact bind_map _ _ _ _ fun r => rfl
    · rfl
  case indexAddr esz x i =>
    simp only [opK]
    cases ev t x with
    | slice p n c =>
      cases ev t i <;> cases p <;> try rfl
      simp only []
      split <;> rfl
    | _ => rfl
  case indexArr len esz x i =>
    simp only [opK]
    cases ev t x with
    | pointer p =>
      cases ev t i <;> cases p <;> try rfl
      simp only []
      split <;> rfl
    | _ => rfl
  case binB neg x y =>
    simp only [opK]
    cases ev t x <;> cases ev t y <;> rfl
  case conv k x =>
    simp only [opK]
    cases ev t x <;> rfl
  case fieldAddr off x =>
    simp only [opK]
    cases ev t x <;> try rfl
    rename_i p
    cases p <;> rfl
  case slice0 x =>
    simp only [opK]
    cases ev t x <;> try rfl
    rename_i p _ _
    cases p <;> rfl
  case lenS x =>
    simp only [opK]
    cases ev t x <;> rfl
  case bin o x y =>
    simp only [opK]
    have := binK_na o (ev t x) (ev t y) (fun v => (v, M)) (fun p => some p)
    rw [binK_na o (ev t x) (ev t y) (fun v => (v, [])) (fun p => some (p.1, M))]
    rw [binK_na o (ev t x) (ev t y) (fun v => (v, [])) (fun p => some (p.1, M2))]
    cases (binK o (ev t x) (ev t y) fun v => some (v, ([] : AMem))) <;> rfl
  case un o x =>
    simp only [opK]
    rw [unK_na o (ev t x) (fun v => (v, [])) (fun p => some (p.1, M))]
    rw [unK_na o (ev t x) (fun v => (v, [])) (fun p => some (p.1, M2))]
    cases (unK o (ev t x) fun v => some (v, ([] : AMem))) <;> rfl
  case mv x => rfl
  case makeFunc fn first cap => rfl
  case lenC n => rfl

theorem ldLeaves_congr {get get2 : Nat → Option Value} (h : ∀ j, get j = get2 j) (lfs : List Leaf) (i : Nat) (K : List Value → Res) : ldLeaves get lfs i K = ldLeaves get2 lfs i K := by
  have : get = get2 := funext h
  rw [this]

theorem opV_load (rec : Rec) (agg : Bool) (lfs : List Leaf) (a : Operand) (t : List Value) (M M2 : AMem) (hld : ∀ p, ev t a = .pointer (some p) → ∀ j, M.ld p.block j = M2.ld p.block j) :
    opV rec (.load agg lfs a) t M = (opV rec (.load agg lfs a) t M2).map fun p => (p.1, M) := by
  unfold opV
  simp only [opK]
  split
  · rename_i p hp
    have := hld p hp
    split
    · rw [ldLeaves_congr (get2 := fun j => M2.ld p.block (p.off + j)) (fun j => this _)]
      exact na_map (ldLeaves_na _ lfs 0) (fun vs => .agg vs.toArray) M M2
    · split
      · rename_i lf
        rw [this]
        exact na_map (ldLeaf_na lf _) id M M2
      · rfl
  · rfl

end Go.Ax
