/- Regions whose order is open. -/
import Derived.Test.YtjmeilpffmhojaaAxRun
import Derived.OrdersIn
set_option linter.unusedVariables false
set_option linter.unusedSimpArgs false
namespace Go.Ax
open Go Go.RowKit

/-! #### the order -/

theorem closedE_spec {ops : Array Oper} {bef : Array Nat} (h : closedE ops bef = true) {j : Nat} {o : Oper} (hj : ops[j]? = some o) :
    (∀ e ∈ o.after, Region.binds .any e = true → e.on < j) ∧ (∀ i, preO bef i j = true → ∃ e ∈ o.after, Region.binds .any e = true ∧ (e.on = i ∨ preO bef i e.on = true)) := by
  unfold closedE at h
  rw [List.all_eq_true] at h
  have hm : (o, j) ∈ ops.toList.zipIdx := by
    rw [List.mem_zipIdx_iff_getElem?]; simpa using hj
  have := h _ hm
  simp only [Bool.and_eq_true, List.all_eq_true] at this
  obtain ⟨h1, h2⟩ := this
  refine ⟨fun e he hb => ?_, fun i hi => ?_⟩
  · have := h1 e (Array.mem_toList_iff.2 he)
    simp only [hb, Bool.not_true, Bool.false_or, decide_eq_true_eq] at this
    exact this
  · simp only [preO, Bool.and_eq_true, decide_eq_true_eq] at hi
    have := h2 i (List.mem_range.2 hi.1)
    simp only [hi.2, Bool.not_true, Bool.false_or, List.any_eq_true, Bool.and_eq_true, Bool.or_eq_true, beq_iff_eq, decide_eq_true_eq] at this
    obtain ⟨e, he, hb, hor⟩ := this
    refine ⟨e, Array.mem_toList_iff.1 he, hb, hor.imp id fun hh => ?_⟩
    simp only [preO, Bool.and_eq_true, decide_eq_true_eq]; exact hh

/-- What is listed is closed under what must come before. -/
theorem pre_listed {ops : Array Oper} {bef : Array Nat} (h : closedE ops bef = true) {S : Nat → Prop} (hS : ∀ j, S j → ∃ o, ops[j]? = some o ∧ ∀ e ∈ o.after, Region.binds .any e = true → S e.on) :
    ∀ j, S j → ∀ i, preO bef i j = true → S i := by
  intro j
  induction j using Nat.strongRecOn with
  | _ j ih =>
    intro hj i hi
    obtain ⟨o, ho, hall⟩ := hS j hj
    obtain ⟨c1, c2⟩ := closedE_spec h ho
    obtain ⟨e, he, hb, hor⟩ := c2 i hi
    have hse := hall e he hb
    rcases hor with rfl | hp
    · exact hse
    · exact ih e.on (c1 e he hb) hse i hp

theorem pre_ready {ops : Array Oper} {bef : Array Nat} (h : closedE ops bef = true) {S : Nat → Prop} (hS : ∀ j, S j → ∃ o, ops[j]? = some o ∧ ∀ e ∈ o.after, Region.binds .any e = true → S e.on)
    {k : Nat} {o : Oper} (ho : ops[k]? = some o) (hall : ∀ e ∈ o.after, Region.binds .any e = true → S e.on) : ∀ i, preO bef i k = true → S i := by
  intro i hi
  obtain ⟨c1, c2⟩ := closedE_spec h ho
  obtain ⟨e, he, hb, hor⟩ := c2 i hi
  rcases hor with rfl | hp
  · exact hall e he hb
  · exact pre_listed h hS e.on (hall e he hb) i hp

theorem preO_lt {bef : Array Nat} {i j : Nat} (h : preO bef i j = true) : i < j := by
  simp only [preO, Bool.and_eq_true, decide_eq_true_eq] at h; exact h.1

theorem drawFit_spec {bef : Array Nat} {l : List AOper} (h : drawFit bef l = true) {i j : Nat} {a b : AOper} (hi : l[i]? = some a) (hj : l[j]? = some b) (hne : i ≠ j) :
    (isEff a = true → isEff b = true → preO bef i j = true ∨ preO bef j i = true) ∧
    (∀ d, a.dst = some d → (d ∈ readsO b → preO bef i j = true ∨ preO bef j i = true) ∧ b.dst ≠ some d) := by
  unfold drawFit at h
  rw [List.all_eq_true] at h
  have h1 := h (a, i) (by rw [List.mem_zipIdx_iff_getElem?]; exact hi)
  rw [List.all_eq_true] at h1
  have h2 := h1 (b, j) (by rw [List.mem_zipIdx_iff_getElem?]; exact hj)
  simp only [beq_eq_false_iff_ne.2 hne, Bool.false_or, Bool.and_eq_true, Bool.or_eq_true, ordO] at h2
  obtain ⟨e1, e2⟩ := h2
  refine ⟨fun ha hb => ?_, fun d hd => ?_⟩
  · rcases e1 with e1 | e1
    · exact e1
    · simp [ha, hb] at e1
  · rw [hd] at e2
    simp only [Bool.and_eq_true, Bool.or_eq_true, Bool.not_eq_true', bne_iff_ne] at e2
    refine ⟨fun hr => ?_, e2.2⟩
    rcases e2.1 with e | e
    · have : (readsO b).contains d = true := by simpa using hr
      rw [this] at e; cases e
    · exact e

theorem drawChk_mem {bef : Array Nat} {l : List AOper} {i j : Nat} {a b : AOper} (hi : l[i]? = some a) (hj : l[j]? = some b) (ha : isLoad a = true) (hb : isEff b = true)
    (h1 : preO bef i j = false) (h2 : preO bef j i = false) : (i, j) ∈ drawChk bef l := by
  unfold drawChk
  rw [List.mem_flatMap]
  refine ⟨(a, i), List.mem_filter.2 ⟨by rw [List.mem_zipIdx_iff_getElem?]; exact hi, ha⟩, List.mem_map.2 ⟨(b, j), List.mem_filter.2 ⟨by rw [List.mem_zipIdx_iff_getElem?]; exact hj, ?_⟩, rfl⟩⟩
  simp [ordO, h1, h2, hb]

/-! #### slots -/

def Sl (l : List AOper) (t : List Value) (V : Nat → Value) (S : Nat → Prop) (tc : List Value) : Prop :=
  tc.length = t.length ∧ (∀ j o d, l[j]? = some o → S j → o.dst = some d → d < t.length → tc[d]? = some (V j)) ∧ (∀ d, (∀ j o, l[j]? = some o → S j → o.dst ≠ some d) → tc[d]? = t[d]?)

theorem Sl.step {l : List AOper} {t : List Value} {V : Nat → Value} {S : Nat → Prop} {tc : List Value} (hD : ∀ (i j : Nat) (a b : AOper) (d : Nat), i ≠ j → l[i]? = some a → l[j]? = some b → a.dst = some d → b.dst ≠ some d)
    (h : Sl l t V S tc) {i : Nat} {o : AOper} (hi : l[i]? = some o) {S' : Nat → Prop} (hS : ∀ j, S' j ↔ S j ∨ j = i) : Sl l t V S' (setT tc o.dst (V i)) := by
  obtain ⟨h1, h2, h3⟩ := h
  cases hd : o.dst with
  | none =>
    refine ⟨h1, fun j b d hj hs hb hlt => ?_, fun d hno => h3 d fun j b hj hs => hno j b hj ((hS j).2 (.inl hs))⟩
    rcases (hS j).1 hs with hs | rfl
    · exact h2 j b d hj hs hb hlt
    · rw [hi] at hj; cases hj; rw [hd] at hb; cases hb
  | some d0 =>
    refine ⟨by simp [setT, h1], fun j b d hj hs hb hlt => ?_, fun d hno => ?_⟩
    · simp only [setT]
      by_cases e : j = i
      · subst e
        rw [hi] at hj; cases hj
        rw [hd] at hb; cases hb
        rw [List.getElem?_set, if_pos rfl, if_pos (by rw [h1]; exact hlt)]
      · have hne : d0 ≠ d := fun e' => by subst e'; exact hD i j o b d0 (Ne.symm e) hi hj hd hb
        rw [List.getElem?_set, if_neg hne]
        exact h2 j b d hj (((hS j).1 hs).resolve_right e) hb hlt
    · simp only [setT]
      have hne : d0 ≠ d := fun e' => by subst e'; exact hno i o hi ((hS i).2 (.inr rfl)) hd
      rw [List.getElem?_set, if_neg hne]
      exact h3 d fun j b hj hs => hno j b hj ((hS j).2 (.inl hs))

theorem Sl.agree {l : List AOper} {t : List Value} {V : Nat → Value} {S1 S2 : Nat → Prop} {t1 t2 : List Value} (h : Sl l t V S1 t1) (k : Sl l t V S2 t2) {d : Nat}
    (hS : ∀ j o, l[j]? = some o → o.dst = some d → (S1 j ↔ S2 j)) : t1[d]? = t2[d]? := by
  by_cases ex : ∃ j o, l[j]? = some o ∧ S1 j ∧ o.dst = some d
  · obtain ⟨j, o, e1, e2, e3⟩ := ex
    by_cases hlt : d < t.length
    · rw [h.2.1 j o d e1 e2 e3 hlt, k.2.1 j o d e1 ((hS j o e1 e3).1 e2) e3 hlt]
    · rw [List.getElem?_eq_none (by rw [h.1]; omega), List.getElem?_eq_none (by rw [k.1]; omega)]
  · rw [h.2.2 d fun j o e1 e2 e3 => ex ⟨j, o, e1, e2, e3⟩, k.2.2 d fun j o e1 e2 e3 => ex ⟨j, o, e1, (hS j o e1 e3).2 e2, e3⟩]

/-! #### the canonical run -/

section
variable {rec : Rec}

theorem drawK_trace (pairs : List (Nat × Nat)) (base : Nat) (r : Value × AMem) (K : List Value → AMem → Res) : ∀ (l : List AOper) (k : Nat) (lds : List (Nat × Nat)) (efs : List (Nat × AMem × AMem)) (t : List Value) (M : AMem),
    drawK rec pairs base (l.map fun a => (a, none)) k lds efs t M K = some r →
    ∃ (T : Nat → List Value) (MM : Nat → AMem) (V : Nat → Value) (L : List (Nat × Nat)) (F : List (Nat × AMem × AMem)),
      T k = t ∧ MM k = M ∧ (∀ i o, l[i]? = some o → operR rec o (T (k + i)) (MM (k + i)) = some (V (k + i), MM (k + i + 1)) ∧ T (k + i + 1) = setT (T (k + i)) o.dst (V (k + i))) ∧
      K (T (k + l.length)) (MM (k + l.length)) = some r ∧ chkOk pairs L F = true ∧ (∀ i, i < k → L.lookup i = lds.lookup i ∧ F.lookup i = efs.lookup i) ∧
      (∀ i o b, l[i]? = some o → pairs.any (fun p => p.1 == k + i) = true → blockOf o (T (k + i)) = some b → L.lookup (k + i) = some b) ∧
      (∀ i o, l[i]? = some o → pairs.any (fun p => p.2 == k + i) = true → F.lookup (k + i) = some (MM (k + i), MM (k + i + 1)))
  | [], k, lds, efs, t, M, h => by
    simp only [List.map_nil, drawK] at h
    split at h
    · rename_i hc
      exact ⟨fun _ => t, fun _ => M, fun _ => undef, lds, efs, rfl, rfl, fun i o e => by simp at e, h, hc, fun i _ => ⟨rfl, rfl⟩, fun i o b e => by simp at e, fun i o e => by simp at e⟩
    · cases h
  | o :: l, k, lds, efs, t, M, h => by
    simp only [List.map_cons, drawK] at h
    rw [operK_na] at h
    obtain ⟨p, h1, h2⟩ := Option.bind_eq_some_iff.1 h
    obtain ⟨T, MM, V, L, F, c1, c2, c3, c4, c5, c6, c7, c8⟩ := drawK_trace pairs base r K l (k + 1) _ _ _ _ h2
    have fresh : ∀ {X : Type} (x : X) (f : Nat → X), ∃ g : Nat → X, g k = x ∧ ∀ i, g (k + 1 + i) = f (k + 1 + i) := fun x f => ⟨fun i => if i = k then x else f i, if_pos rfl, fun i => if_neg (by omega)⟩
    obtain ⟨T', t0, ts⟩ := fresh t T
    obtain ⟨M', m0, ms⟩ := fresh M MM
    obtain ⟨V', v0, vs⟩ := fresh p.1 V
    have e1 : ∀ i, k + (i + 1) = k + 1 + i := fun i => by omega
    have t1 : T' (k + 1) = setT t o.dst p.1 := by have := ts 0; rw [Nat.add_zero] at this; rw [this, c1]
    have m1 : M' (k + 1) = p.2 := by have := ms 0; rw [Nat.add_zero] at this; rw [this, c2]
    refine ⟨T', M', V', L, F, t0, m0, fun i o' e => ?_, ?_, c5, fun i hi => ?_, fun i o' b e q1 q2 => ?_, fun i o' e q1 => ?_⟩
    · cases i with
      | zero =>
        have : o = o' := by simpa using e
        subst this
        simp only [Nat.add_zero, t0, m0, v0, t1, m1]
        exact ⟨h1, trivial⟩
      | succ i =>
        have := c3 i o' (by simpa using e)
        rw [e1, ts i, ms i, vs i]
        have e2 := ts (i + 1); have e3 := ms (i + 1)
        rw [← Nat.add_assoc] at e2 e3
        rw [e2, e3]
        exact this
    · simp only [List.length_cons]
      rw [e1, ts, ms]; exact c4
    · have := c6 i (by omega)
      rw [this.1, this.2]
      have hne : (i == k) = false := by simp; omega
      refine ⟨?_, ?_⟩
      · split
        · split
          · simp only [List.lookup, hne]
          · rfl
        · rfl
      · split
        · simp only [List.lookup, hne]
        · rfl
    · cases i with
      | zero =>
        have : o = o' := by simpa using e
        subst this
        simp only [Nat.add_zero, t0] at q1 q2 ⊢
        rw [(c6 k (Nat.lt_succ_self k)).1, if_pos q1, q2]
        simp [List.lookup]
      | succ i =>
        rw [e1] at q1 q2 ⊢
        rw [ts i] at q2
        exact c7 i o' b (by simpa using e) q1 q2
    · cases i with
      | zero =>
        simp only [Nat.add_zero, m0, m1] at q1 ⊢
        rw [(c6 k (Nat.lt_succ_self k)).2, if_pos q1]
        simp [List.lookup]
      | succ i =>
        rw [e1] at q1 ⊢
        have e3 := ms (i + 1)
        rw [← Nat.add_assoc] at e3
        rw [ms i, e3]
        exact c8 i o' (by simpa using e) q1

theorem chkOk_spec {pairs : List (Nat × Nat)} {L : List (Nat × Nat)} {F : List (Nat × AMem × AMem)} (h : chkOk pairs L F = true) {i j : Nat} (hm : (i, j) ∈ pairs) {a : Nat} {mm : AMem × AMem} (h1 : L.lookup i = some a) (h2 : F.lookup j = some mm) :
    AMem.ver mm.1 a = AMem.ver mm.2 a := by
  unfold chkOk at h
  rw [List.all_eq_true] at h
  have := h _ hm
  simp only [h1, h2, decide_eq_true_eq] at this
  exact this

/-! #### what an operation's result hangs on -/

theorem operR_congr (rec : Rec) (o : AOper) {t t2 : List Value} (M : AMem) (h : ∀ d ∈ readsO o, t[d]? = t2[d]?) : operR rec o t M = operR rec o t2 M := by
  obtain ⟨dst, op, guard⟩ := o
  have h1 : opV rec op t M = opV rec op t2 M := opV_congr rec op M fun d hd => h d (by simp [readsO, hd])
  cases guard with
  | none => exact h1
  | some gw =>
    obtain ⟨g, want⟩ := gw
    have := h g (by simp [readsO])
    simp only [operR, List.getD_eq_getElem?_getD, this, h1]

theorem operR_stays (rec : Rec) (o : AOper) (t : List Value) (M M2 : AMem) (h : opV rec o.op t M = (opV rec o.op t M2).map fun p => (p.1, M)) : operR rec o t M = (operR rec o t M2).map fun p => (p.1, M) := by
  obtain ⟨dst, op, guard⟩ := o
  cases guard with
  | none => exact h
  | some gw =>
    obtain ⟨g, want⟩ := gw
    simp only [operR]
    cases t.getD g undef with
    | bool b => simp only []; split; exact h; rfl
    | tuple vs => simp only []; split <;> rfl
    | _ => rfl

theorem kind_cases (o : AOper) : isEff o = true ∨ kindOf o.op = .pure ∨ (isLoad o = true ∧ ∃ agg lfs a, o.op = .load agg lfs a) := by
  unfold isEff isLoad
  cases hk : kindOf o.op with
  | eff => exact .inl rfl
  | pure => exact .inr (.inl rfl)
  | load =>
    refine .inr (.inr ⟨rfl, ?_⟩)
    cases ho : o.op <;> rw [ho] at hk <;> simp only [kindOf] at hk <;> try (cases hk; done)
    · exact ⟨_, _, _, rfl⟩
    · split at hk <;> cases hk

/-- What turns no memory. -/
theorem operR_same {o : AOper} (h : isEff o = false) {t : List Value} {M : AMem} {p : Value × AMem} (hr : operR rec o t M = some p) : p.2 = M := by
  have : operR rec o t M = (operR rec o t M).map fun p => (p.1, M) := by
    rcases kind_cases o with hh | hh | ⟨_, agg, lfs, a, ho⟩
    · rw [h] at hh; cases hh
    · exact operR_stays rec o t M M (opV_pure rec o.op t M M hh)
    · refine operR_stays rec o t M M ?_
      rw [ho]; exact opV_load rec agg lfs a t M M fun _ _ _ => rfl
  rw [hr] at this
  have := Option.some.inj this
  rw [this]

end
end Go.Ax
