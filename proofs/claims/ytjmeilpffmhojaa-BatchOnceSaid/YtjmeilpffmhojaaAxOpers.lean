/- Guards; a region in the order of the text. -/
import Derived.Test.YtjmeilpffmhojaaAxCtl
set_option linter.unusedVariables false
set_option linter.unusedSimpArgs false
namespace Go.Ax
open Go Go.RowKit

section
variable {P : Program} {base : Nat} {A : AMem} {ι : Iota} {W : World}

theorem put_rel {t : List Value} {act : Act} {v v' : Value} (ht : LRel A ι W t act.tmps.toList) (hv : VRel A ι W v v') (dst : Option Nat) : LRel A ι W (setT t dst v) (act.put dst v').tmps.toList := by
  cases dst with
  | none => exact ht
  | some d =>
    simp only [setT, Act.put, Array.toList_setIfInBounds]
    exact ht.set d hv

theorem put_defers (act : Act) (dst : Option Nat) (v : Value) : (act.put dst v).defers = act.defers := by cases dst <;> rfl

theorem set_same {t : List Value} {g : Nat} {v : Value} (h : t.getD g undef = v) (hv : v ≠ undef) : t.set g v = t := by
  by_cases hg : g < t.length
  · have : t[g] = v := by simpa [List.getD, hg] using h
    rw [← this]; exact List.set_getElem_self hg
  · exfalso
    apply hv
    rw [← h]; simp [List.getD, List.getElem?_eq_none (Nat.le_of_not_lt hg)]

theorem compOper_inv {ops : Array Oper} {oc : Oper} {o : AOper} (h : compOper P ops oc = some o) : compOp P oc = some o.op ∧ o.dst = oc.dst ∧
    ((oc.guard = none ∧ o.guard = none) ∨ ∃ j want d, oc.guard = some (j, want) ∧ (ops[j]?).bind (·.dst) = some d ∧ o.guard = some (d, want)) := by
  unfold compOper at h
  obtain ⟨a, h1, h2⟩ := Option.bind_eq_some_iff.1 h
  split at h2
  · rename_i hg; cases h2; exact ⟨h1, rfl, .inl ⟨hg, rfl⟩⟩
  · rename_i j want hg
    obtain ⟨d, h3, h4⟩ := Option.map_eq_some_iff.1 h2
    subst h4
    exact ⟨h1, rfl, .inr ⟨j, want, d, hg, h3, rfl⟩⟩

/-- What the guard of an operation says, in both. -/
theorem guard_rel {ops : Array Oper} {act : Act} {t : List Value} (ht : LRel A ι W t act.tmps.toList) {j d : Nat} (hd : (ops[j]?).bind (·.dst) = some d) :
    (∀ b, t.getD d undef = .bool b → yielded ops act.tmps j = some b) ∧ (∀ vs, t.getD d undef = .tuple vs → yielded ops act.tmps j = none) := by
  have hy : yielded ops act.tmps j = match act.tmps[d]? with | some (.bool b) => some b | _ => none := by
    unfold yielded
    rw [hd]; rfl
  refine ⟨fun b hb => ?_, fun vs hv => ?_⟩
  · have hlt : d < t.length := by
      by_cases hg : d < t.length
      · exact hg
      · simp [List.getD, List.getElem?_eq_none (Nat.le_of_not_lt hg), undef] at hb
    have hget : t[d]? = some (.bool b) := by
      rw [List.getElem?_eq_getElem hlt]; simpa [List.getD, hlt] using hb
    obtain ⟨v', e1, e2⟩ := ht.get hget
    have := bool_inv e2
    rw [hy]
    have e3 : act.tmps[d]? = some v' := by simpa using e1
    rw [e3, this]
  · rw [hy]
    by_cases hlt : d < t.length
    · have hget : t[d]? = some (.tuple vs) := by
        rw [List.getElem?_eq_getElem hlt]; simpa [List.getD, hlt] using hv
      obtain ⟨v', e1, e2⟩ := ht.get hget
      obtain ⟨x', rfl, _⟩ := tuple_inv e2
      have e3 : act.tmps[d]? = some (.tuple x') := by simpa using e1
      rw [e3]
    · have hge : act.tmps.size ≤ d := Nat.le_of_not_lt fun q => hlt (Nat.lt_of_lt_of_eq q (ht.1.trans Array.length_toList).symm)
      rw [Array.getElem?_eq_none hge]

theorem operStep {rec : Rec} (hrec : RecOk P rec) {ops : Array Oper} {oc : Oper} {o : AOper} (hc : compOper P ops oc = some o) {t : List Value} {act : Act} {K : List Value → AMem → Res} {r : Value × AMem}
    (hs : Sim P base A ι W) (ht : LRel A ι W t act.tmps.toList) (hb : base ≤ W.heap.size) (hk : operK rec o t A K = some r) (ro : Option Nat) (n : Nat) (next : Act → World → Prop) (Q : Exit → Act → World → Prop)
    (hnext : ∀ t' A' ι' W' a', K t' A' = some r → Sim P base A' ι' W' → LRel A' ι' W' t' a'.tmps.toList → a'.defers = act.defers → Ev base A ι W A' ι' W' → next a' W') :
    if Region.wanted oc (yielded ops act.tmps) then oc.wpIn (FW ro) n P act W next Q
    else (∀ f, oc.about P W act.eval = some f → (FW ro).fn f) ∧ next (act.put oc.dst undef) W := by
  obtain ⟨h1, h2, h3⟩ := compOper_inv hc
  have step : ∀ (t1 : List Value), t1 = t → opK rec o.op t1 A (fun v M => K (setT t1 o.dst v) M) = some r → oc.wpIn (FW ro) n P act W next Q := fun t1 e hk0 => by
    subst e
    refine opStep hrec h1 hs ht hb hk0 ro n next Q fun v A' ι' W' v' k1 k2 k3 k4 => ?_
    refine hnext _ A' ι' W' _ k1 k2 ?_ (put_defers _ _ _) k3
    rw [h2]
    exact put_rel (ht.mono k3.le) k4 oc.dst
  have skip : ∀ (t1 : List Value), t1 = t → K (setT t1 o.dst undef) A = some r → (∀ f, oc.about P W act.eval = some f → (FW ro).fn f) ∧ next (act.put oc.dst undef) W := fun t1 e hk0 => by
    subst e
    refine ⟨about_wide ro oc W act.eval, hnext _ A ι W _ hk0 hs ?_ (put_defers _ _ _) (.refl _ _ _ _)⟩
    rw [h2]
    exact put_rel ht VRel.undef' oc.dst
  unfold operK at hk
  simp only [setTF_eq, setF_eq] at hk
  rcases h3 with ⟨g1, g2⟩ | ⟨j, want, d, g1, g2, g3⟩
  · rw [g2] at hk
    simp only at hk
    rw [if_pos (by simp [Region.wanted, g1])]
    exact step t rfl hk
  · rw [g3] at hk
    simp only at hk
    obtain ⟨r1, r2⟩ := guard_rel (ops := ops) ht g2
    have hw : Region.wanted oc (yielded ops act.tmps) = (yielded ops act.tmps j == some want) := by simp [Region.wanted, g1]
    rw [hw]
    split at hk
    · rename_i b hbv
      rw [r1 b hbv]
      split at hk
      · rename_i hbt
        subst hbt
        have hset := set_same hbv (by simp [undef])
        split at hk
        · rename_i hwant
          subst hwant
          rw [if_pos (by simp)]
          exact step _ hset hk
        · rename_i hwant
          have : want = false := by simpa using hwant
          subst this
          rw [if_neg (by simp)]
          exact skip _ hset hk
      · rename_i hbt
        have : b = false := by simpa using hbt
        subst this
        have hset := set_same hbv (by simp [undef])
        split at hk
        · rename_i hwant
          subst hwant
          rw [if_neg (by simp)]
          exact skip _ hset hk
        · rename_i hwant
          have : want = false := by simpa using hwant
          subst this
          rw [if_pos (by simp)]
          exact step _ hset hk
    · rename_i vs hv
      rw [r2 vs hv]
      split at hk
      · rw [if_neg (by simp)]
        exact skip t rfl hk
      · cases hk
    · cases hk

theorem opsStep {rec : Rec} (hrec : RecOk P rec) {ops : Array Oper} (ro : Option Nat) (n : Nat) (Q : Exit → Act → World → Prop) (K : List Value → AMem → Res) (r : Value × AMem) :
    ∀ (ol : List Oper) (l : List AOper) (k : Nat), ol.mapM (compOper P ops) = some l → (∀ j, ol[j]? = ops[k + j]?) →
      ∀ (t : List Value) (A : AMem) (ι : Iota) (W : World) (act : Act), Sim P base A ι W → LRel A ι W t act.tmps.toList → base ≤ W.heap.size → opsK rec l t A K = some r →
      (∀ t' A' ι' W' a', K t' A' = some r → Sim P base A' ι' W' → LRel A' ι' W' t' a'.tmps.toList → a'.defers = act.defers → Ev base A ι W A' ι' W' → Q .normal a' W') →
      wpOpsIn (FW ro) n P ops Q (List.range' k ol.length) act W
  | [], l, k, hm, hidx, t, A, ι, W, act, hs, ht, hb, hk, hQ => by
    simp at hm; subst hm
    exact hQ t A ι W act hk hs ht rfl (.refl _ _ _ _)
  | oc :: ol, l, k, hm, hidx, t, A, ι, W, act, hs, ht, hb, hk, hQ => by
    simp only [List.mapM_cons] at hm
    obtain ⟨o, h1, h2⟩ := Option.bind_eq_some_iff.1 hm
    obtain ⟨l', h3, h4⟩ := Option.bind_eq_some_iff.1 h2
    cases h4
    have hk0 : ops[k]? = some oc := by simpa using (hidx 0).symm
    simp only [List.length_cons, List.range'_succ, wpOpsIn, hk0]
    refine operStep hrec h1 hs ht hb hk ro n _ Q fun t' A' ι' W' a' k1 k2 k3 k4 k5 => ?_
    refine opsStep hrec ro n Q K r ol l' (k + 1) h3 (fun j => by have := hidx (j + 1); simpa [Nat.add_assoc, Nat.add_comm 1 j] using this) t' A' ι' W' a' k2 k3 (Nat.le_trans hb k5.size) k1 ?_
    intro t'' A'' ι'' W'' a'' q1 q2 q3 q4 q5
    exact hQ t'' A'' ι'' W'' a'' q1 q2 q3 (q4.trans k4) (k5.trans q5)

end
end Go.Ax
