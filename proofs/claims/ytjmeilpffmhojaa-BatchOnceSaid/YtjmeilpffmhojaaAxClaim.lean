/- A block that stands in the interpreter's memory ahead of its making. -/
import Derived.Test.YtjmeilpffmhojaaAxDraw2
set_option linter.unusedVariables false
set_option linter.unusedSimpArgs false
namespace Go.Ax
open Go Go.RowKit

theorem VRel.mono0 {A : AMem} {ι : Iota} {W : World} {A' : AMem} {ι' : Iota} {W' : World} (hdead : ∀ a : Nat, A[a]? = some .dead → A'[a]? = some .dead) (hlive : ∀ (a b o : Nat), ι a = some (b, o) → ι' a = some (b, o)) (hsize : ∀ b : Nat, szW W b ≤ szW W' b) {v v' : Value}
    (h : VRel A ι W v v') : VRel A' ι' W' v v' := by
  induction h with
  | junk v' => exact .junk v'
  | flat v h => exact .flat v h
  | ptr p b o hi => exact .ptr p b o (hlive _ _ _ hi)
  | ptrDead p q h => exact .ptrDead p q (hdead _ h)
  | slice p n c c' b o hi hs hc hb => exact .slice p n c c' b o (hlive _ _ _ hi) hs hc fun hz => Nat.le_trans (hb hz) (hsize b)
  | sliceDead p q n c c' h hs hc => exact .sliceDead p q n c c' (hdead _ h) hs hc
  | sliceEmpty p q c => exact .sliceEmpty p q c
  | func g x x' y y' hx hy _ _ ihx ihy => exact .func g x x' y y' hx hy ihx ihy
  | yield l l' hi => exact .yield l l' (hlive _ _ _ hi)
  | yieldDead l l' h => exact .yieldDead l l' (hdead _ h)
  | agg x x' hx _ ih => exact .agg x x' hx ih
  | tuple x x' hx _ ih => exact .tuple x x' hx ih

section
variable {P : Program} {base : Nat} {A : AMem} {ι : Iota} {W : World}

theorem LRel.mono0 {A' : AMem} {ι' : Iota} {W' : World} (hdead : ∀ a : Nat, A[a]? = some .dead → A'[a]? = some .dead) (hlive : ∀ (a b o : Nat), ι a = some (b, o) → ι' a = some (b, o)) (hsize : ∀ b : Nat, szW W b ≤ szW W' b) {l l' : List Value}
    (h : LRel A ι W l l') : LRel A' ι' W' l l' := ⟨h.1, fun j v v' a b => (h.2 j v v' a b).mono0 hdead hlive hsize⟩

/-- More blocks than have been made. -/
theorem Sim.more (h : Sim P base A ι W) {A' : AMem} (hlen : A.length ≤ A'.length) (hA : ∀ a : Nat, a < A.length → A'[a]? = A[a]?) : Sim P base A' ι W ∧ Le A ι W A' ι W := by
  have hle : Le A ι W A' ι W := ⟨fun a hd => by rw [hA a (List.getElem?_eq_some_iff.1 hd).1]; exact hd, fun a b o hi => .inr hi, fun _ => Nat.le_refl _,
    fun a cs m e => .inr ⟨cs, m, by rw [hA a (List.getElem?_eq_some_iff.1 e).1]; exact e, Nat.le_refl _, fun _ => rfl⟩, hlen, fun _ _ e => e⟩
  have old : ∀ {a b o x}, ι a = some (b, o) → A'[a]? = some x → A[a]? = some x := fun hi hx => by rwa [hA _ (h.lt hi)] at hx
  refine ⟨⟨fun a b o hi => ?_, fun a b o cs m hi hcs => ?_, fun a b o l hi hcs => ?_, fun a b o cs m hi hcs => h.leaf a b o cs m hi (old hi hcs), fun a a' b o o' hne hi hi' hw => ?_⟩, hle⟩
  · rw [hA a (h.lt hi)]; exact h.has a b o hi
  · obtain ⟨cs', t, fr, hb, q1, q2, q3⟩ := h.cells a b o cs m hi (old hi hcs)
    exact ⟨cs', t, fr, hb, q1, fun j v hv => let ⟨v', r1, r2⟩ := q2 j v hv; ⟨v', r1, r2.mono hle⟩, q3⟩
  · obtain ⟨l', hb, q1, q2⟩ := h.loop a b o l hi (old hi hcs)
    exact ⟨l', hb, q1.mono hle, q2⟩
  · rw [hA a' (h.lt hi')]
    refine h.sep a a' b o o' hne hi hi' ?_
    rcases hw with ⟨cs, m, e, hr⟩ | ⟨l, e⟩
    · exact .inl ⟨cs, m, old hi e, hr⟩
    · exact .inr ⟨l, old hi e⟩

/-- The block is made at last. -/
theorem Sim.claim (h : Sim P base A ι W) (hb : base ≤ W.heap.size) (r : Nat) (hn : ι r = none) (cs : List Value) (m : Meta) (hx : A[r]? = some (.cells cs m)) (hlf : cs.all leafV = true) (cs' : Array Value) (t : TypeId)
    (hlen : cs.length ≤ cs'.size) (hr : ∀ (j : Nat) (v : Value), cs[j]? = some v → ∃ v', cs'[j]? = some v' ∧ VRel A ι W v v') :
    Sim P base A (upd ι r W.heap.size 0) (W.alloc (.cells cs' t)) := by
  have hlive : ∀ (a b o : Nat), ι a = some (b, o) → upd ι r W.heap.size 0 a = some (b, o) := fun a b o hi => by
    rw [upd_other _ _ _ _ (fun e => by subst e; rw [hn] at hi; cases hi)]; exact hi
  have hmono : ∀ {v v' : Value}, VRel A ι W v v' → VRel A (upd ι r W.heap.size 0) (W.alloc (.cells cs' t)) v v' := fun hv => hv.mono0 (fun _ e => e) hlive (szW_alloc _)
  have split : ∀ {a b o}, upd ι r W.heap.size 0 a = some (b, o) → (a = r ∧ b = W.heap.size ∧ o = 0) ∨ (a ≠ r ∧ ι a = some (b, o)) := fun {a b o} hi => by
    by_cases e : a = r
    · subst e; rw [upd_same] at hi; cases hi; exact .inl ⟨rfl, rfl, rfl⟩
    · rw [upd_other _ _ _ _ e] at hi; exact .inr ⟨e, hi⟩
  have off : ∀ (b : Nat) (x : Obj), W.heap[b]? = some x → (W.alloc (.cells cs' t)).heap[b]? = some x := fun b x hx' =>
    (Below.heap_alloc W _ b (Array.getElem?_eq_some_iff.1 hx').1).trans hx'
  refine ⟨fun a b o hi => ?_, fun a b o cs1 m1 hi hA => ?_, fun a b o l hi hA => ?_, fun a b o cs1 m1 hi hA => ?_, fun a a' b o o' hne hi hi' hw => ?_⟩
  · rcases split hi with ⟨rfl, _, _⟩ | ⟨_, hi⟩
    · exact ⟨_, hx, by simp⟩
    · exact h.has a b o hi
  · rcases split hi with ⟨rfl, rfl, rfl⟩ | ⟨_, hi⟩
    · rw [hx] at hA; cases hA
      refine ⟨cs', t, (0, 0), heap_alloc_self _, by omega, fun j v hv => ?_, fun _ => ⟨rfl, hb⟩⟩
      obtain ⟨v', q1, q2⟩ := hr j v hv
      exact ⟨v', by rw [Nat.zero_add]; exact q1, hmono q2⟩
    · obtain ⟨cs2, t2, fr, q0, q1, q2, q3⟩ := h.cells a b o cs1 m1 hi hA
      exact ⟨cs2, t2, fr, off _ _ q0, q1, fun j v hv => let ⟨v', r1, r2⟩ := q2 j v hv; ⟨v', r1, hmono r2⟩, q3⟩
  · rcases split hi with ⟨rfl, rfl, rfl⟩ | ⟨_, hi⟩
    · rw [hx] at hA; cases hA
    · obtain ⟨l', q0, q1, q2⟩ := h.loop a b o l hi hA
      exact ⟨l', off _ _ q0, ⟨q1.state, q1.pend, q1.tmps.mono0 (fun _ e => e) hlive (szW_alloc _), q1.params, q1.assign, q1.body⟩, q2⟩
  · rcases split hi with ⟨rfl, rfl, rfl⟩ | ⟨_, hi⟩
    · rw [hx] at hA; cases hA; exact hlf
    · exact h.leaf a b o cs1 m1 hi hA
  · rcases split hi with ⟨rfl, rfl, rfl⟩ | ⟨hne1, hi1⟩
    · rcases split hi' with ⟨rfl, _, _⟩ | ⟨_, hi'⟩
      · exact absurd rfl hne
      · by_cases hd : A[a']? = some .dead
        · exact hd
        · exact absurd (h.inW hi' hd) (Nat.lt_irrefl _)
    · rcases split hi' with ⟨rfl, rfl, rfl⟩ | ⟨_, hi'⟩
      · exfalso
        have hd : A[a]? ≠ some .dead := fun hd => by
          rcases hw with ⟨cs, m, e, _⟩ | ⟨l, e⟩ <;> rw [hd] at e <;> cases e
        exact absurd (h.inW hi1 hd) (Nat.lt_irrefl _)
      · exact h.sep a a' b o o' hne hi1 hi' hw

theorem claimStep {ops : Array Oper} {oc : Oper} {o : AOper} (hc : compOper P ops oc = some o) {z : List Value} {d : Nat} (ho : o.op = .alloc z) (hg : o.guard = none) (hd : o.dst = some d) {t : List Value} {act : Act}
    (hs : Sim P base A ι W) (ht : LRel A ι W t act.tmps.toList) (hb : base ≤ W.heap.size) {r : Nat} {m : Meta} (hn : ι r = none) (hx : A[r]? = some (.cells z m)) (ro : Option Nat) (n : Nat) (next : Act → World → Prop) (Q : Exit → Act → World → Prop)
    (hnext : ∀ W' a', Sim P base A (upd ι r W.heap.size 0) W' → LRel A (upd ι r W.heap.size 0) W' (setT t (some d) (.pointer (some ⟨r, 0, none⟩))) a'.tmps.toList → a'.defers = act.defers → (∃ ob, W' = W.alloc ob) → next a' W') :
    if Region.wanted oc (yielded ops act.tmps) then oc.wpIn (FW ro) n P act W next Q
    else (∀ f, oc.about P W act.eval = some f → (FW ro).fn f) ∧ next (act.put oc.dst undef) W := by
  obtain ⟨h1, h2, h3⟩ := compOper_inv hc
  have g1 : oc.guard = none := by
    rcases h3 with ⟨g1, _⟩ | ⟨_, _, _, _, _, g3⟩
    · exact g1
    · rw [hg] at g3; cases g3
  rw [if_pos (by simp [Region.wanted, g1])]
  refine ⟨about_wide ro oc W act.eval, ?_⟩
  rw [Oper.semAt_eq _ _ _ (comp_not_defer h1)]
  rw [ho] at h1
  obtain ⟨mk, cs, mm, k1, k2, k3, cs', ty, mk', k4, k5, k6, k7⟩ := news_ok h1 (.inl ⟨z, rfl⟩) t A ι W act (fun mk blk => some (mk r, [blk])) _ ht rfl
  have e1 : mk r = .pointer (some ⟨r, 0, none⟩) ∧ cs = z := by
    have := Option.some.inj k1
    have a1 := congrArg Prod.fst this
    have a2 := congrArg Prod.snd this
    simp only [List.cons.injEq, AObj.cells.injEq, and_true] at a1 a2
    exact ⟨a1, a2.1⟩
  obtain ⟨e1, rfl⟩ := e1
  rw [k4]
  have hlive : ∀ (a b o : Nat), ι a = some (b, o) → upd ι r W.heap.size 0 a = some (b, o) := fun a b o hi => by
    rw [upd_other _ _ _ _ (fun e => by subst e; rw [hn] at hi; cases hi)]; exact hi
  refine hnext _ _ (hs.claim hb r hn cs m hx k3 cs' ty k5 k6) ?_ (put_defers _ _ _) ⟨_, rfl⟩
  rw [← hd, h2]
  refine put_rel (ht.mono0 (fun _ e => e) hlive (szW_alloc _)) ?_ oc.dst
  rw [← e1]
  exact k7 _ _ r (upd_same _ _ _)

end
end Go.Ax
