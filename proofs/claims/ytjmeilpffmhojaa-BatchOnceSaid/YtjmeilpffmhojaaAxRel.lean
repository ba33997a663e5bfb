/- How the abstract memory stands for the model's: relations, and what keeps them. -/
import Derived.Test.YtjmeilpffmhojaaAxComp
import Derived.RangeFuncCalls
import Derived.Below
set_option linter.unusedVariables false
namespace Go.Ax
open Go Go.RowKit

abbrev Iota := Nat → Option (Nat × Nat)

def szW (W : World) (b : Nat) : Nat :=
  match W.heap[b]? with
  | some (.cells c _ _) => c.size
  | _ => 0

inductive VRel (A : AMem) (ι : Iota) (W : World) : Value → Value → Prop
  | junk (v' : Value) : VRel A ι W junk v'
  | flat (v : Value) (h : flatLeaf v = true) : VRel A ι W v v
  | ptr (p : Addr) (b o : Nat) (hi : ι p.block = some (b, o)) : VRel A ι W (.pointer (some p)) (.pointer (some ⟨b, o + p.off, none⟩))
  | ptrDead (p q : Addr) (h : A[p.block]? = some .dead) : VRel A ι W (.pointer (some p)) (.pointer (some q))
  | slice (p : Addr) (n c c' b o : Nat) (hi : ι p.block = some (b, o)) (hs : p.spot = none) (hc : n ≤ c')
      (hb : c ≠ 0 → o + p.off + c' * c ≤ szW W b) : VRel A ι W (.slice (some p) n c) (.slice (some ⟨b, o + p.off, none⟩) n c')
  | sliceDead (p q : Addr) (n c c' : Nat) (h : A[p.block]? = some .dead) (hs : p.spot = none) (hc : n ≤ c') : VRel A ι W (.slice (some p) n c) (.slice (some q) n c')
  | sliceEmpty (p q : Addr) (c : Nat) : VRel A ι W (.slice (some p) 0 c) (.slice (some q) 0 0)
  | func (g : FuncId) (x x' y y' : Array Value) (hx : x.size = x'.size) (hy : y.size = y'.size)
      (rx : ∀ (j : Nat) (v v' : Value), x[j]? = some v → x'[j]? = some v' → VRel A ι W v v') (ry : ∀ (j : Nat) (v v' : Value), y[j]? = some v → y'[j]? = some v' → VRel A ι W v v') :
      VRel A ι W (.func (.func g) x y) (.func (.func g) x' y')
  | yield (l l' : Nat) (hi : ι l = some (l', 0)) : VRel A ι W (.func (.yield l) #[] #[]) (.func (.yield l') #[] #[])
  | yieldDead (l l' : Nat) (h : A[l]? = some .dead) : VRel A ι W (.func (.yield l) #[] #[]) (.func (.yield l') #[] #[])
  | agg (x x' : Array Value) (hx : x.size = x'.size) (rx : ∀ (j : Nat) (v v' : Value), x[j]? = some v → x'[j]? = some v' → VRel A ι W v v') : VRel A ι W (.agg x) (.agg x')
  | tuple (x x' : Array Value) (hx : x.size = x'.size) (rx : ∀ (j : Nat) (v v' : Value), x[j]? = some v → x'[j]? = some v' → VRel A ι W v v') : VRel A ι W (.tuple x) (.tuple x')

/-- Lists, one by one. -/
def LRel (A : AMem) (ι : Iota) (W : World) (l l' : List Value) : Prop :=
  l.length = l'.length ∧ ∀ (j : Nat) (v v' : Value), l[j]? = some v → l'[j]? = some v' → VRel A ι W v v'

/-- What is written is marked. -/
def VerLe (A A' : AMem) : Prop := ∀ (a : Nat) (cs : List Value) (m : Meta), A[a]? = some (.cells cs m) →
  A'[a]? = some .dead ∨ ∃ cs' m', A'[a]? = some (.cells cs' m') ∧ m.ver ≤ m'.ver ∧ (m'.ver = m.ver → cs' = cs)

theorem VerLe.refl (A : AMem) : VerLe A A := fun a cs m h => .inr ⟨cs, m, h, Nat.le_refl _, fun _ => rfl⟩

theorem VerLe.trans {A A' A'' : AMem} (hd : ∀ a : Nat, A'[a]? = some .dead → A''[a]? = some .dead) (h : VerLe A A') (k : VerLe A' A'') : VerLe A A'' := fun a cs m hA => by
  rcases h a cs m hA with h1 | ⟨cs', m', h1, h2, h3⟩
  · exact .inl (hd a h1)
  · rcases k a cs' m' h1 with k1 | ⟨cs'', m'', k1, k2, k3⟩
    · exact .inl k1
    · exact .inr ⟨cs'', m'', k1, Nat.le_trans h2 k2, fun e => by
        have e1 : m''.ver = m'.ver := by omega
        rw [k3 e1, h3 (by omega)]⟩

theorem VerLe.put {A A' : AMem} (n : Nat) (hA : ∀ a : Nat, a ≠ n → A'[a]? = A[a]?) (hn : ∀ cs m, A[n]? = some (.cells cs m) →
    A'[n]? = some .dead ∨ ∃ cs' m', A'[n]? = some (.cells cs' m') ∧ m.ver ≤ m'.ver ∧ (m'.ver = m.ver → cs' = cs)) : VerLe A A' := fun a cs m h => by
  by_cases e : a = n
  · subst e; exact hn cs m h
  · exact .inr ⟨cs, m, by rw [hA a e]; exact h, Nat.le_refl _, fun _ => rfl⟩

structure Le (A : AMem) (ι : Iota) (W : World) (A' : AMem) (ι' : Iota) (W' : World) : Prop where
  dead : ∀ a : Nat, A[a]? = some .dead → A'[a]? = some .dead
  live : ∀ (a b o : Nat), ι a = some (b, o) → A'[a]? = some .dead ∨ ι' a = some (b, o)
  size : ∀ b : Nat, szW W b ≤ szW W' b
  ver : VerLe A A'
  len : A.length ≤ A'.length
  old : ∀ a : Nat, a < A.length → ι a = none → ι' a = none

theorem Le.refl (A : AMem) (ι : Iota) (W : World) : Le A ι W A ι W := ⟨fun _ h => h, fun _ _ _ h => .inr h, fun _ => Nat.le_refl _, .refl _, Nat.le_refl _, fun _ _ h => h⟩

theorem Le.trans {A : AMem} {ι : Iota} {W : World} {A' : AMem} {ι' : Iota} {W' : World} {A'' : AMem} {ι'' : Iota} {W'' : World}
    (h : Le A ι W A' ι' W') (k : Le A' ι' W' A'' ι'' W'') : Le A ι W A'' ι'' W'' := by
  refine ⟨fun a ha => k.dead a (h.dead a ha), fun a b o hi => ?_, fun b => Nat.le_trans (h.size b) (k.size b), h.ver.trans k.dead k.ver, Nat.le_trans h.len k.len, fun a ha hn => k.old a (Nat.lt_of_lt_of_le ha h.len) (h.old a ha hn)⟩
  rcases h.live a b o hi with hd | h1
  · exact .inl (k.dead a hd)
  · exact k.live a b o h1

theorem VRel.mono {A : AMem} {ι : Iota} {W : World} {A' : AMem} {ι' : Iota} {W' : World} (hle : Le A ι W A' ι' W') {v v' : Value}
    (h : VRel A ι W v v') : VRel A' ι' W' v v' := by
  induction h with
  | junk v' => exact .junk v'
  | flat v h => exact .flat v h
  | ptr p b o hi =>
    rcases hle.live _ _ _ hi with hd | h1
    · exact .ptrDead p _ hd
    · exact .ptr p b o h1
  | ptrDead p q h => exact .ptrDead p q (hle.dead _ h)
  | slice p n c c' b o hi hs hc hb =>
    rcases hle.live _ _ _ hi with hd | h1
    · exact .sliceDead p _ n c c' hd hs hc
    · exact .slice p n c c' b o h1 hs hc fun hz => Nat.le_trans (hb hz) (hle.size b)
  | sliceDead p q n c c' h hs hc => exact .sliceDead p q n c c' (hle.dead _ h) hs hc
  | sliceEmpty p q c => exact .sliceEmpty p q c
  | func g x x' y y' hx hy _ _ ihx ihy => exact .func g x x' y y' hx hy ihx ihy
  | yield l l' hi =>
    rcases hle.live _ _ _ hi with hd | h1
    · exact .yieldDead l l' hd
    · exact .yield l l' h1
  | yieldDead l l' h => exact .yieldDead l l' (hle.dead _ h)
  | agg x x' hx _ ih => exact .agg x x' hx ih
  | tuple x x' hx _ ih => exact .tuple x x' hx ih

theorem LRel.mono {A : AMem} {ι : Iota} {W : World} {A' : AMem} {ι' : Iota} {W' : World} (hle : Le A ι W A' ι' W') {l l' : List Value}
    (h : LRel A ι W l l') : LRel A' ι' W' l l' := ⟨h.1, fun j v v' a b => (h.2 j v v' a b).mono hle⟩

section lrel
variable {A : AMem} {ι : Iota} {W : World}

theorem LRel.nil : LRel A ι W [] [] := ⟨rfl, fun j v v' h _ => by simp at h⟩
theorem LRel.cons {v v' : Value} {l l' : List Value} (h : VRel A ι W v v') (k : LRel A ι W l l') : LRel A ι W (v :: l) (v' :: l') := by
  refine ⟨by simp [k.1], fun j u u' a b => ?_⟩
  cases j with
  | zero => simp at a b; subst a; subst b; exact h
  | succ j => simp at a b; exact k.2 j u u' a b
theorem LRel.inv {v : Value} {l l' : List Value} (h : LRel A ι W (v :: l) l') : ∃ v' r, l' = v' :: r ∧ VRel A ι W v v' ∧ LRel A ι W l r := by
  cases l' with
  | nil => have := h.1; simp at this
  | cons v' r => exact ⟨v', r, rfl, h.2 0 v v' rfl rfl, by have := h.1; simpa using this, fun j u u' a b => h.2 (j + 1) u u' (by simpa using a) (by simpa using b)⟩
theorem LRel.inv_nil {l' : List Value} (h : LRel A ι W [] l') : l' = [] := by
  have := h.1; simp at this; exact List.length_eq_zero_iff.1 this.symm
theorem LRel.append {l l' k k' : List Value} (h : LRel A ι W l l') (g : LRel A ι W k k') : LRel A ι W (l ++ k) (l' ++ k') := by
  refine ⟨by simp [h.1, g.1], fun j v v' a b => ?_⟩
  rw [List.getElem?_append] at a b
  rw [← h.1] at b
  split at a
  · rename_i hj; rw [if_pos hj] at b; exact h.2 j v v' a b
  · rename_i hj; rw [if_neg hj] at b; exact g.2 _ v v' a b
theorem LRel.get {l l' : List Value} (h : LRel A ι W l l') {j : Nat} {v : Value} (a : l[j]? = some v) : ∃ v', l'[j]? = some v' ∧ VRel A ι W v v' := by
  have hj : j < l'.length := h.1 ▸ (List.getElem?_eq_some_iff.1 a).1
  exact ⟨l'[j], List.getElem?_eq_getElem hj, h.2 j v _ a (List.getElem?_eq_getElem hj)⟩
theorem LRel.set {l l' : List Value} (h : LRel A ι W l l') (i : Nat) {v v' : Value} (k : VRel A ι W v v') : LRel A ι W (l.set i v) (l'.set i v') := by
  refine ⟨by simp [h.1], fun j u u' a b => ?_⟩
  rw [List.getElem?_set] at a b
  rw [← h.1] at b
  split at a
  · rename_i hj
    subst hj
    rw [if_pos rfl] at b
    split at a
    · rename_i hl; rw [if_pos hl] at b; simp at a b; subst a; subst b; exact k
    · simp at a
  · rename_i hj; rw [if_neg hj] at b; exact h.2 j u u' a b
theorem LRel.take {l l' : List Value} (h : LRel A ι W l l') (n : Nat) : LRel A ι W (l.take n) (l'.take n) := by
  refine ⟨by simp [h.1], fun j u u' a b => ?_⟩
  rw [List.getElem?_take] at a b
  split at a
  · rename_i hj; rw [if_pos hj] at b; exact h.2 j u u' a b
  · simp at a
theorem LRel.drop {l l' : List Value} (h : LRel A ι W l l') (n : Nat) : LRel A ι W (l.drop n) (l'.drop n) := by
  refine ⟨by simp [h.1], fun j u u' a b => ?_⟩
  rw [List.getElem?_drop] at a b
  exact h.2 _ u u' a b
theorem LRel.of_map {α : Type} (f g : α → Value) (l : List α) (h : ∀ x ∈ l, VRel A ι W (f x) (g x)) : LRel A ι W (l.map f) (l.map g) := by
  induction l with
  | nil => exact LRel.nil
  | cons x r ih => exact LRel.cons (h x (by simp)) (ih fun y hy => h y (by simp [hy]))

theorem VRel.flatV' {v : Value} (h : flatV v = true) : VRel A ι W v v := by
  cases v with
  | agg cs =>
    refine .agg cs cs rfl fun j u u' a b => ?_
    rw [a] at b
    obtain rfl := Option.some.inj b
    refine .flat u ?_
    simp only [flatV, List.all_eq_true] at h
    exact h u (Array.mem_toList_iff.2 (Array.mem_of_getElem? a))
  | _ => exact .flat _ h

theorem VRel.undef' : VRel A ι W undef undef := .tuple #[] #[] rfl fun j u u' a b => by simp at a

theorem flatLeaf_eq {v v' : Value} (h : VRel A ι W v v') (hf : flatLeaf v = true) : v = v' := by
  cases h with
  | junk => simp [Ax.junk, flatLeaf] at hf
  | flat => rfl
  | ptr => simp [flatLeaf] at hf
  | ptrDead => simp [flatLeaf] at hf
  | slice => simp [flatLeaf] at hf
  | sliceDead => simp [flatLeaf] at hf
  | sliceEmpty => simp [flatLeaf] at hf
  | func => simp [flatLeaf] at hf
  | yield => simp [flatLeaf] at hf
  | yieldDead => simp [flatLeaf] at hf
  | agg => simp [flatLeaf] at hf
  | tuple => simp [flatLeaf] at hf

theorem flatV_eq {v v' : Value} (h : VRel A ι W v v') (hf : flatV v = true) : v = v' := by
  cases v with
  | agg cs =>
    cases h with
    | flat => rfl
    | agg x x' hx rx =>
      congr 1
      refine Array.ext hx fun j h1 h2 => ?_
      refine flatLeaf_eq (rx j _ _ (Array.getElem?_eq_getElem h1) (Array.getElem?_eq_getElem h2)) ?_
      simp only [flatV, List.all_eq_true] at hf
      exact hf _ (Array.mem_toList_iff.2 (Array.getElem_mem h1))
  | _ => exact flatLeaf_eq h hf

theorem cellsL_rel {v v' : Value} (h : VRel A ι W v v') (hj : (cellsL v).all leafV = true) : LRel A ι W (cellsL v) (cellsL v') := by
  have one : ∀ u u' : Value, VRel A ι W u u' → LRel A ι W [u] [u'] := fun u u' k => LRel.cons k LRel.nil
  cases h with
  | junk v' => simp [Ax.junk, cellsL, leafV] at hj
  | agg x x' hx rx => exact ⟨by simpa [cellsL] using hx, fun j u u' a b => rx j u u' (by simpa [cellsL] using a) (by simpa [cellsL] using b)⟩
  | flat v hf =>
    cases v with
    | agg cs => simp [flatLeaf] at hf
    | _ => exact one _ _ (.flat _ hf)
  | ptr p b o hi => exact one _ _ (.ptr p b o hi)
  | ptrDead p q h => exact one _ _ (.ptrDead p q h)
  | slice p n c c' b o hi hs hc hb => exact one _ _ (.slice p n c c' b o hi hs hc hb)
  | sliceDead p q n c c' h hs hc => exact one _ _ (.sliceDead p q n c c' h hs hc)
  | sliceEmpty p q c => exact one _ _ (.sliceEmpty p q c)
  | func g x x' y y' hx hy rx ry => exact one _ _ (.func g x x' y y' hx hy rx ry)
  | yield l l' hi => exact one _ _ (.yield l l' hi)
  | yieldDead l l' hi => exact one _ _ (.yieldDead l l' hi)
  | tuple x x' hx rx => exact one _ _ (.tuple x x' hx rx)

theorem cells_toList (v : Value) : v.cells.toList = cellsL v := by cases v <;> rfl

/-- what lies in a cell is no aggregate, on both sides -/
theorem leafV_rel {v v' : Value} (h : VRel A ι W v v') (hv : leafV v = true) : leafV v' = true := by
  cases h <;> first | exact hv | rfl | (simp [Ax.junk, leafV] at hv)

end lrel

/-! ### the two memories -/

def pendRel : Option AExit → Option Code → Prop
  | none, none => True
  | some .ret, some .ret => True
  | some (.exit i), some (.exit j) => i = j
  | _, _ => False

structure LoopRel (P : Program) (A : AMem) (ι : Iota) (W : World) (l : ALoop) (l' : Loop) : Prop where
  state : l'.state = l.state
  pend : pendRel l.pending l'.pending
  tmps : LRel A ι W l.tmps l'.tmps.toList
  params : l'.params.toList = l.params
  assign : comp P l'.assign = some (erase l.assign)
  body : comp P l'.body = some (erase l.body)

theorem LoopRel.mono {P : Program} {A : AMem} {ι : Iota} {W : World} {A' : AMem} {ι' : Iota} {W' : World} (hle : Le A ι W A' ι' W') {l : ALoop} {l' : Loop}
    (h : LoopRel P A ι W l l') : LoopRel P A' ι' W' l l' := { h with tmps := h.tmps.mono hle }

/-- A block that may be written. -/
def Wrt (A : AMem) (a : Nat) : Prop := (∃ cs m, A[a]? = some (.cells cs m) ∧ m.ro = false) ∨ ∃ l, A[a]? = some (.loop l)

structure Sim (P : Program) (base : Nat) (A : AMem) (ι : Iota) (W : World) : Prop where
  has : ∀ (a b o : Nat), ι a = some (b, o) → ∃ x, A[a]? = some x ∧ x ≠ .room
  cells : ∀ (a b o : Nat) (cs : List Value) (m : Meta), ι a = some (b, o) → A[a]? = some (.cells cs m) →
    ∃ cs' t fr, W.heap[b]? = some (.cells cs' t fr) ∧ o + cs.length ≤ cs'.size ∧
      (∀ (j : Nat) (v : Value), cs[j]? = some v → ∃ v', cs'[o + j]? = some v' ∧ VRel A ι W v v') ∧ (m.ro = false → fr = (0, 0) ∧ base ≤ b)
  loop : ∀ (a b o : Nat) (l : ALoop), ι a = some (b, o) → A[a]? = some (.loop l) → ∃ l', W.heap[b]? = some (.loop l') ∧ LoopRel P A ι W l l' ∧ base ≤ b
  leaf : ∀ (a b o : Nat) (cs : List Value) (m : Meta), ι a = some (b, o) → A[a]? = some (.cells cs m) → cs.all leafV = true
  sep : ∀ (a a' b o o' : Nat), a ≠ a' → ι a = some (b, o) → ι a' = some (b, o') → Wrt A a → A[a']? = some .dead

/-- What has come of a world since. -/
structure Ev (base : Nat) (A : AMem) (ι : Iota) (W : World) (A' : AMem) (ι' : Iota) (W' : World) : Prop where
  le : Le A ι W A' ι' W'
  below : Below base W W'
  deferred : ∀ (r : Nat) (ds : Option (List Deferred)), W.heap[r]? = some (.deferred ds) → W'.heap[r]? = some (.deferred ds)
  loops : ∀ (r : Nat) (l : Loop), W.heap[r]? = some (.loop l) → ∃ l', W'.heap[r]? = some (.loop l')

theorem Ev.refl (base : Nat) (A : AMem) (ι : Iota) (W : World) : Ev base A ι W A ι W := ⟨.refl _ _ _, .refl _ _, fun _ _ h => h, fun _ l h => ⟨l, h⟩⟩

theorem Ev.trans {base : Nat} {A : AMem} {ι : Iota} {W : World} {A' : AMem} {ι' : Iota} {W' : World} {A'' : AMem} {ι'' : Iota} {W'' : World}
    (h : Ev base A ι W A' ι' W') (k : Ev base A' ι' W' A'' ι'' W'') : Ev base A ι W A'' ι'' W'' :=
  ⟨h.le.trans k.le, h.below.trans k.below, fun r ds e => k.deferred r ds (h.deferred r ds e), fun r l e => by obtain ⟨l', e'⟩ := h.loops r l e; exact k.loops r l' e'⟩

end Go.Ax
