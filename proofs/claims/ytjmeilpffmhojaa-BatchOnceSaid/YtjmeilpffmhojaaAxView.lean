/- What comes of a value that is seen as its type says; operands; what a related value is. -/
import Derived.Test.YtjmeilpffmhojaaAxMem2
set_option linter.unusedVariables false
namespace Go.Ax
open Go Go.RowKit

section
variable {P : Program} {base : Nat} {A : AMem} {ι : Iota} {W : World}

/-- u stands for all that v stands for -/
def Sub (u v : Value) : Prop := ∀ (A : AMem) (ι : Iota) (W : World) (v' : Value), VRel A ι W v v' → VRel A ι W u v'

theorem Sub.refl (v : Value) : Sub v v := fun _ _ _ _ h => h

theorem ldLeaf_ok {lf : Leaf} {src : Option Value} {K : Value → Res} {r : Value × AMem} (h : ldLeaf lf src K = some r) :
    ∃ u w, src = some w ∧ K u = some r ∧ Sub u w ∧ leafV u = true := by
  cases lf with
  | int k =>
    simp only [ldLeaf, Option.bind_eq_some_iff] at h
    obtain ⟨n, h1, h2⟩ := h
    unfold intOf? at h1
    split at h1
    · split at h1
      · rename_i k' m hk
        cases h1; subst hk
        exact ⟨_, _, rfl, h2, Sub.refl _, rfl⟩
      · cases h1
    · cases h1
  | bool =>
    simp only [ldLeaf, Option.bind_eq_some_iff] at h
    obtain ⟨n, h1, h2⟩ := h
    unfold boolOf? at h1
    split at h1
    · cases h1; exact ⟨_, _, rfl, h2, Sub.refl _, rfl⟩
    · cases h1
  | str =>
    simp only [ldLeaf, Option.bind_eq_some_iff] at h
    obtain ⟨n, h1, h2⟩ := h
    unfold strOf? at h1
    split at h1
    · cases h1; exact ⟨_, _, rfl, h2, Sub.refl _, rfl⟩
    · cases h1
  | ptr =>
    simp only [ldLeaf, Option.bind_eq_some_iff] at h
    obtain ⟨n, h1, h2⟩ := h
    unfold ptrOf? at h1
    split at h1
    · cases h1; exact ⟨_, _, rfl, h2, Sub.refl _, rfl⟩
    · cases h1
  | slice =>
    simp only [ldLeaf, Option.bind_eq_some_iff] at h
    obtain ⟨n, h1, h2⟩ := h
    unfold sliceOf? at h1
    split at h1
    · cases h1; exact ⟨_, _, rfl, h2, Sub.refl _, rfl⟩
    · cases h1
  | any =>
    simp only [ldLeaf, Option.bind_eq_some_iff] at h
    obtain ⟨n, h1, h2⟩ := h
    unfold anyOf? at h1
    split at h1
    · split at h1
      · cases h1; rename_i hl; exact ⟨_, _, rfl, h2, Sub.refl _, hl⟩
      · cases h1
    · cases h1

theorem ldLeaves_ok {get : Nat → Option Value} {r : Value × AMem} : ∀ (lfs : List Leaf) (i : Nat) (K : List Value → Res), ldLeaves get lfs i K = some r →
    ∃ us ws : List Value, us.length = lfs.length ∧ ws.length = lfs.length ∧ K us = some r ∧ us.all leafV = true ∧ (∀ j w, ws[j]? = some w → get (i + j) = some w) ∧
      ∀ (j : Nat) (u w : Value), us[j]? = some u → ws[j]? = some w → Sub u w
  | [], i, K, h => ⟨[], [], rfl, rfl, h, rfl, fun j w e => by simp at e, fun j u w e => by simp at e⟩
  | lf :: rest, i, K, h => by
    simp only [ldLeaves] at h
    obtain ⟨u, w, h1, h2, h3, h4⟩ := ldLeaf_ok h
    obtain ⟨us, ws, k1, k2, k3, k4, k5, k6⟩ := ldLeaves_ok rest (i + 1) _ h2
    refine ⟨u :: us, w :: ws, by simp [k1], by simp [k2], k3, by simp [h4, k4], fun j x e => ?_, fun j x y e e' => ?_⟩
    · cases j with
      | zero => simp at e; subst e; simpa using h1
      | succ j => simp at e; have := k5 j x e; rw [← this]; congr 1; omega
    · cases j with
      | zero => simp at e e'; subst e; subst e'; exact h3
      | succ j => simp at e e'; exact k6 j x y e e'

theorem LRel.sub {us ws l' : List Value} (hl : us.length = ws.length) (h : ∀ (j : Nat) (u w : Value), us[j]? = some u → ws[j]? = some w → Sub u w) (k : LRel A ι W ws l') :
    LRel A ι W us l' := by
  refine ⟨by rw [hl]; exact k.1, fun j v v' e e' => ?_⟩
  have hj : j < ws.length := by rw [← hl]; exact (List.getElem?_eq_some_iff.1 e).1
  have ew := List.getElem?_eq_getElem hj
  exact h j _ _ e ew _ _ _ _ (k.2 j _ v' ew e')

theorem agg_of_LRel {us : List Value} {cs' : Array Value} (h : LRel A ι W us cs'.toList) : VRel A ι W (.agg us.toArray) (.agg cs') :=
  .agg _ _ (by simpa using h.1) fun j v v' e e' => h.2 j v v' (by simpa using e) (by simpa using e')

theorem tuple_of_LRel {us : List Value} {cs' : Array Value} (h : LRel A ι W us cs'.toList) : VRel A ι W (.tuple us.toArray) (.tuple cs') :=
  .tuple _ _ (by simpa using h.1) fun j v v' e e' => h.2 j v v' (by simpa using e) (by simpa using e')

theorem agg_inv {x : Array Value} {v' : Value} (h : VRel A ι W (.agg x) v') : ∃ x', v' = .agg x' ∧ LRel A ι W x.toList x'.toList := by
  cases h with
  | flat _ hf => simp [flatLeaf] at hf
  | agg _ x' hx rx => exact ⟨x', rfl, by simpa using hx, fun j v v' e e' => rx j v v' (by simpa using e) (by simpa using e')⟩

theorem tuple_inv {x : Array Value} {v' : Value} (h : VRel A ι W (.tuple x) v') : ∃ x', v' = .tuple x' ∧ LRel A ι W x.toList x'.toList := by
  cases h with
  | flat _ hf => simp [flatLeaf] at hf
  | tuple _ x' hx rx => exact ⟨x', rfl, by simpa using hx, fun j v v' e e' => rx j v v' (by simpa using e) (by simpa using e')⟩

theorem view1_ok {ty : Bool × List Leaf} {v : Value} {K : Value → Res} {r : Value × AMem} (h : view1 ty v K = some r) : ∃ u, K u = some r ∧ Sub u v := by
  obtain ⟨g, lfs⟩ := ty
  unfold view1 at h
  cases g with
  | true =>
    simp only [if_true] at h
    obtain ⟨cs, h1, h2⟩ := Option.bind_eq_some_iff.1 h
    unfold aggOf? at h1
    split at h1
    · rename_i x
      split at h1
      · rename_i hsz
        cases h1
        obtain ⟨us, ws, k1, k2, k3, k4, k5, k6⟩ := ldLeaves_ok _ _ _ h2
        refine ⟨_, k3, fun A ι W v' hv => ?_⟩
        obtain ⟨x', rfl, hx⟩ := agg_inv hv
        have hws : ws = x.toList := by
          refine List.ext_getElem? fun j => ?_
          by_cases hj : j < ws.length
          · have := k5 j _ (List.getElem?_eq_getElem hj)
            rw [List.getElem?_eq_getElem hj]; rw [Nat.zero_add] at this; exact this.symm
          · rw [List.getElem?_eq_none (by omega), List.getElem?_eq_none (by simp only [Array.length_toList]; omega)]
        subst hws
        exact agg_of_LRel (LRel.sub (k1.trans k2.symm) k6 hx)
      · cases h1
    · cases h1
  | false =>
    simp only [Bool.false_eq_true, if_false] at h
    split at h
    · obtain ⟨u, w, h1, h2, h3, h4⟩ := ldLeaf_ok h
      cases h1
      exact ⟨u, h2, h3⟩
    · cases h

theorem viewN_ok {cs : List Value} {r : Value × AMem} : ∀ (ret : List (Bool × List Leaf)) (i : Nat) (K : List Value → Res), viewN cs ret i K = some r →
    ∃ us ws : List Value, us.length = ret.length ∧ ws.length = ret.length ∧ K us = some r ∧ (∀ j w, ws[j]? = some w → cs[i + j]? = some w) ∧
      ∀ (j : Nat) (u w : Value), us[j]? = some u → ws[j]? = some w → Sub u w
  | [], i, K, h => ⟨[], [], rfl, rfl, h, fun j w e => by simp at e, fun j u w e => by simp at e⟩
  | ty :: rest, i, K, h => by
    simp only [viewN] at h
    obtain ⟨w, h1, h2⟩ := Option.bind_eq_some_iff.1 h
    obtain ⟨u, h3, h4⟩ := view1_ok h2
    obtain ⟨us, ws, k1, k2, k3, k5, k6⟩ := viewN_ok rest (i + 1) _ h3
    refine ⟨u :: us, w :: ws, by simp [k1], by simp [k2], k3, fun j x e => ?_, fun j x y e e' => ?_⟩
    · cases j with
      | zero => simp at e; subst e; simpa using h1
      | succ j => simp at e; have := k5 j x e; rw [← this]; congr 1; omega
    · cases j with
      | zero => simp at e e'; subst e; subst e'; exact h4
      | succ j => simp at e e'; exact k6 j x y e e'

theorem view_ok {ret : List (Bool × List Leaf)} {single : Bool} {v : Value} {K : Value → Res} {r : Value × AMem} (h : view ret single v K = some r) :
    ∃ u, K u = some r ∧ Sub u v := by
  unfold view at h
  cases single with
  | true =>
    simp only [if_true] at h
    split at h
    · exact view1_ok h
    · cases h
  | false =>
    simp only [Bool.false_eq_true, if_false] at h
    obtain ⟨cs, h1, h2⟩ := Option.bind_eq_some_iff.1 h
    unfold tupOf? at h1
    split at h1
    · rename_i x
      split at h1
      · rename_i hsz
        cases h1
        obtain ⟨us, ws, k1, k2, k3, k5, k6⟩ := viewN_ok _ _ _ h2
        refine ⟨_, k3, fun A ι W v' hv => ?_⟩
        obtain ⟨x', rfl, hx⟩ := tuple_inv hv
        · have hws : ws = x.toList := by
            refine List.ext_getElem? fun j => ?_
            by_cases hj : j < ws.length
            · have := k5 j _ (List.getElem?_eq_getElem hj)
              rw [List.getElem?_eq_getElem hj]; rw [Nat.zero_add] at this; exact this.symm
            · rw [List.getElem?_eq_none (by omega), List.getElem?_eq_none (by simp only [Array.length_toList]; omega)]
          subst hws
          exact tuple_of_LRel (LRel.sub (k1.trans k2.symm) k6 hx)
      · cases h1
    · cases h1

/-! #### operands -/

theorem ev_rel {t : List Value} {act : Act} (h : LRel A ι W t act.tmps.toList) (x : Operand) : VRel A ι W (ev t x) (act.eval x) := by
  cases x with
  | tmp i =>
    simp only [ev, Act.eval]
    by_cases hi : i < t.length
    · have hi' : i < act.tmps.size := Nat.lt_of_lt_of_eq hi (h.1.trans Array.length_toList)
      have := h.2 i t[i] act.tmps[i] (List.getElem?_eq_getElem hi) (by simp [hi'])
      simpa [List.getD, hi, Array.getD, hi'] using this
    · have hi' : ¬ i < act.tmps.size := fun q => hi (Nat.lt_of_lt_of_eq q (h.1.trans Array.length_toList).symm)
      simp [List.getD, List.getElem?_eq_none (Nat.le_of_not_lt hi), hi']
      exact VRel.undef'
  | const v =>
    simp only [ev, Act.eval]
    split
    · rename_i hf; exact VRel.flatV' hf
    · exact .junk _
  | global g => exact .junk _
  | func f => exact .func f #[] #[] #[] #[] rfl rfl (fun j v v' e => by simp at e) (fun j v v' e => by simp at e)

theorem ev_list {t : List Value} {act : Act} (h : LRel A ι W t act.tmps.toList) (xs : List Operand) : LRel A ι W (xs.map (ev t)) (xs.map act.eval) :=
  LRel.of_map _ _ xs fun x _ => ev_rel h x

theorem int_inv {k : IntKind} {n : Int} {v' : Value} (h : VRel A ι W (.int k n) v') : v' = .int k n := (flatLeaf_eq h rfl).symm
theorem bool_inv {b : Bool} {v' : Value} (h : VRel A ι W (.bool b) v') : v' = .bool b := (flatLeaf_eq h rfl).symm
theorem string_inv {s : ByteArray} {v' : Value} (h : VRel A ι W (.string s) v') : v' = .string s := (flatLeaf_eq h rfl).symm
theorem nilptr_inv {v' : Value} (h : VRel A ι W (.pointer none) v') : v' = .pointer none := (flatLeaf_eq h rfl).symm

theorem ptr_inv {p : Addr} {v' : Value} (h : VRel A ι W (.pointer (some p)) v') :
    ∃ q, v' = .pointer (some q) ∧ (A[p.block]? = some .dead ∨ ∃ b o, ι p.block = some (b, o) ∧ q = ⟨b, o + p.off, none⟩) := by
  cases h with
  | flat _ hf => simp [flatLeaf] at hf
  | ptr p b o hi => exact ⟨_, rfl, .inr ⟨b, o, hi, rfl⟩⟩
  | ptrDead p q h => exact ⟨q, rfl, .inl h⟩

theorem slice_inv {p : Addr} {n c : Nat} {v' : Value} (h : VRel A ι W (.slice (some p) n c) v') :
    ∃ q c', v' = .slice (some q) n c' ∧ n ≤ c' ∧ ((n = 0 ∧ c' = 0) ∨ (p.spot = none ∧ (A[p.block]? = some .dead ∨
      ∃ b o, ι p.block = some (b, o) ∧ q = ⟨b, o + p.off, none⟩ ∧ (c ≠ 0 → o + p.off + c' * c ≤ szW W b)))) := by
  cases h with
  | flat _ hf => simp [flatLeaf] at hf
  | slice p n c c' b o hi hs hc hb => exact ⟨_, c', rfl, hc, .inr ⟨hs, .inr ⟨b, o, hi, rfl, hb⟩⟩⟩
  | sliceDead p q n c c' h hs hc => exact ⟨q, c', rfl, hc, .inr ⟨hs, .inl h⟩⟩
  | sliceEmpty p q c => exact ⟨q, 0, rfl, Nat.le_refl _, .inl ⟨rfl, rfl⟩⟩

theorem nilslice_inv {n c : Nat} {v' : Value} (h : VRel A ι W (.slice none n c) v') : n = 0 ∧ c = 0 ∧ v' = .slice none 0 0 := by
  cases h with
  | flat _ hf =>
    cases n with
    | zero =>
      cases c with
      | zero => exact ⟨rfl, rfl, rfl⟩
      | succ c => simp [flatLeaf] at hf
    | succ n => simp [flatLeaf] at hf

theorem func_inv {g : FuncId} {x y : Array Value} {v' : Value} (h : VRel A ι W (.func (.func g) x y) v') :
    ∃ x' y', v' = .func (.func g) x' y' ∧ LRel A ι W x.toList x'.toList ∧ LRel A ι W y.toList y'.toList := by
  cases h with
  | flat _ hf => simp [flatLeaf] at hf
  | func g x x' y y' hx hy rx ry =>
    exact ⟨x', y', rfl, ⟨by simpa using hx, fun j v v' e e' => rx j v v' (by simpa using e) (by simpa using e')⟩, ⟨by simpa using hy, fun j v v' e e' => ry j v v' (by simpa using e) (by simpa using e')⟩⟩

theorem yield_inv {l : Nat} {x y : Array Value} {v' : Value} (h : VRel A ι W (.func (.yield l) x y) v') :
    x = #[] ∧ y = #[] ∧ ∃ l', v' = .func (.yield l') #[] #[] ∧ (A[l]? = some .dead ∨ ι l = some (l', 0)) := by
  cases h with
  | flat _ hf => simp [flatLeaf] at hf
  | yield l l' hi => exact ⟨rfl, rfl, l', rfl, .inr hi⟩
  | yieldDead l l' h => exact ⟨rfl, rfl, l', rfl, .inl h⟩

end
end Go.Ax
