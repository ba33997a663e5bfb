/- Each operation: what the abstract one does, the model's does. -/
import Derived.Test.YtjmeilpffmhojaaAxView
set_option linter.unusedVariables false
set_option linter.unusedSimpArgs false
namespace Go.Ax
open Go Go.RowKit

section
variable {P : Program} {base : Nat} {A : AMem} {ι : Iota} {W : World}

def Done (P : Program) (base : Nat) (oc : Oper) (act : Act) (A : AMem) (ι : Iota) (W : World) (v : Value) (A' : AMem) : Prop :=
  ∃ nx v' W' ι', (execOp act.eval oc).run P W = .ok nx W' ∧ (nx = .value v' ∨ (nx = .skip ∧ v' = undef)) ∧ Sim P base A' ι' W' ∧ Ev base A ι W A' ι' W' ∧ VRel A' ι' W' v v'

theorem Done.pure {oc : Oper} {act : Act} {v v' : Value} (hs : Sim P base A ι W) (h : (execOp act.eval oc).run P W = .ok (.value v') W) (hv : VRel A ι W v v') :
    Done P base oc act A ι W v A := ⟨.value v', v', W, ι, h, .inl rfl, hs, .refl _ _ _ _, hv⟩

theorem run_underlying {t : TypeId} {d : TypeDesc} (h : P.underlying t = some d) (W : World) : (underlying t).run P W = .ok d W := by
  simp [underlying, h]
theorem run_sizeOf {t : TypeId} {n : Nat} (h : sizeT P t = some n) (W : World) : (sizeOf t).run P W = .ok n W := by
  unfold sizeT at h
  cases hi : P.info? t with
  | none => simp [hi] at h
  | some i => simp [hi] at h; simp [sizeOf, typeInfo, hi, h]

theorem binK_ok {op : BinOp} {x y : Value} {K : Value → Res} {r : Value × AMem} (h : binK op x y K = some r) :
    ∃ v, K v = some r ∧ flatLeaf v = true ∧ flatLeaf x = true ∧ flatLeaf y = true ∧
      ∀ (xT : TypeId) (ox oy : Operand) (W : World), ((do eqGuard op xT ox oy x y; binOp op xT x y : Sem Value)).run P W = .ok v W := by
  cases x with
  | int k a =>
    cases y with
    | int k' b =>
      cases op <;> simp only [binK] at h <;> (try (split at h <;> rename_i hc <;> try (cases h; done))) <;> (try subst hc) <;> (try (split at h <;> rename_i hc2 <;> try (cases h; done))) <;>
        first
        | (cases h; done)
        | exact ⟨_, h, rfl, rfl, rfl, fun xT ox oy W => by simp_all [eqGuard, binOp, Op.intArith, Op.intDiv, Op.intBits, Op.intCmp, Op.shift] <;> (intros; omega)⟩
    | _ => simp [binK] at h
  | _ => simp [binK] at h

theorem run_eqBool {xT : TypeId} (hT : P.underlying xT = some .bool) (a b : Bool) (W : World) : (Op.equal xT (.bool a) (.bool b)).run P W = .ok (a == b) W := by
  change (Op.equalIn (9999 + 1) xT (.bool a) (.bool b)).run P W = _
  unfold Op.equalIn
  simp [run_underlying hT]

theorem run_eqNil {d : TypeDesc} {xT : TypeId} (hT : P.underlying xT = some d) {x : Operand} {kind : Nat} {v : Value} {b : Bool} (hk : nilKind d x = some kind) (hb : isNil kind v = some b) :
    ∃ c, x = .const c ∧ ∀ (op : BinOp) (ox oy : Operand) (W : World), (op = .eql ∨ op = .neq) →
      ((do eqGuard op xT ox oy v c; binOp op xT v c : Sem Value)).run P W = .ok (.bool (if op = .neq then !b else b)) W ∧
      ((do eqGuard op xT ox oy c v; binOp op xT c v : Sem Value)).run P W = .ok (.bool (if op = .neq then !b else b)) W := by
  have un : ∀ (x y : Value), Op.equal xT x y = Op.equalIn (9999 + 1) xT x y := fun _ _ => rfl
  unfold nilKind at hk
  split at hk <;> cases hk
  · cases v <;> simp [isNil] at hb
    rename_i e a
    refine ⟨_, rfl, fun op ox oy W ho => ?_⟩
    have h1 : (Op.equal xT (.pointer a) (.pointer none)).run P W = .ok b W := by
      rw [un]; unfold Op.equalIn; cases a <;> simp_all [run_underlying hT]
    have h2 : (Op.equal xT (.pointer none) (.pointer a)).run P W = .ok b W := by
      rw [un]; unfold Op.equalIn; cases a <;> simp_all [run_underlying hT]
    rcases ho with rfl | rfl <;> simp [binOp, eqGuard, h1, h2]
  · cases v <;> simp [isNil] at hb
    rename_i e n c a n' c'
    refine ⟨_, rfl, fun op ox oy W ho => ?_⟩
    have h1 : (Op.equal xT (.slice a n' c') (.slice none n c)).run P W = .ok b W := by
      rw [un]; unfold Op.equalIn; cases a <;> simp_all [run_underlying hT]
    have h2 : (Op.equal xT (.slice none n c) (.slice a n' c')).run P W = .ok b W := by
      rw [un]; unfold Op.equalIn; cases a <;> simp_all [run_underlying hT]
    rcases ho with rfl | rfl <;> simp [binOp, eqGuard, h1, h2]
  · cases v <;> simp [isNil] at hb
    · rename_i e1 e2 e3 f1 f2 f3
      refine ⟨_, rfl, fun op ox oy W ho => ?_⟩
      have h1 : (Op.equal xT (.func f1 f2 f3) .nilFunc).run P W = .ok b W := by
        subst hb; rw [un]; unfold Op.equalIn; rw [Sem.run_bind, run_underlying hT]; rfl
      have h2 : (Op.equal xT .nilFunc (.func f1 f2 f3)).run P W = .ok b W := by
        subst hb; rw [un]; unfold Op.equalIn; rw [Sem.run_bind, run_underlying hT]; rfl
      rcases ho with rfl | rfl <;> simp [binOp, eqGuard, h1, h2]
    · refine ⟨_, rfl, fun op ox oy W ho => ?_⟩
      have h1 : (Op.equal xT .nilFunc .nilFunc).run P W = .ok b W := by
        subst hb; rw [un]; unfold Op.equalIn; rw [Sem.run_bind, run_underlying hT]; rfl
      rcases ho with rfl | rfl <;> simp [binOp, eqGuard, h1]

theorem isNil_rel {kind : Nat} {v v' : Value} {b : Bool} (hb : isNil kind v = some b) (h : VRel A ι W v v') : isNil kind v' = some b := by
  unfold isNil at hb ⊢
  split at hb
  · split at hb
    · cases hb
      rename_i a
      cases a with
      | none => rw [nilptr_inv h]
      | some p => obtain ⟨q, rfl, _⟩ := ptr_inv h; rfl
    · cases hb
  · split at hb
    · cases hb
      rename_i a n c
      cases a with
      | none => rw [(nilslice_inv h).2.2]
      | some p => obtain ⟨q, c', rfl, _⟩ := slice_inv h; rfl
    · cases hb
  · split at hb
    · cases hb
      rw [← flatLeaf_eq h rfl]
    · cases hb
      cases h with
      | flat => rfl
      | func => rfl
      | yield => rfl
      | yieldDead => rfl
    · cases hb
  · cases hb

end
end Go.Ax
