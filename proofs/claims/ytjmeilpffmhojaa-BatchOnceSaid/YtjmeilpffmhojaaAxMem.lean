/- What turns the two memories together: a new block, a store, a block given up. -/
import Derived.Test.YtjmeilpffmhojaaAxRel
import Derived.Laws.CopyRow
import Derived.Laws.Cells
import Derived.Laws.World
set_option linter.unusedVariables false
namespace Go.Ax
open Go Go.RowKit

section
variable {P : Program} {base : Nat} {A : AMem} {ι : Iota} {W : World}

theorem Sim.lt (h : Sim P base A ι W) {a b o : Nat} (hi : ι a = some (b, o)) : a < A.length := by
  obtain ⟨x, hx, _⟩ := h.has a b o hi
  exact (List.getElem?_eq_some_iff.1 hx).1

theorem Sim.fresh (h : Sim P base A ι W) : ι A.length = none := by
  cases hi : ι A.length with
  | none => rfl
  | some p => have := h.lt (b := p.1) (o := p.2) hi; omega

/-- A live block lies in the world. -/
theorem Sim.inW (h : Sim P base A ι W) {a b o : Nat} (hi : ι a = some (b, o)) (hd : A[a]? ≠ some .dead) : b < W.heap.size := by
  obtain ⟨x, hx, hr⟩ := h.has a b o hi
  cases x with
  | cells cs m =>
    obtain ⟨cs', t, fr, hb, _⟩ := h.cells a b o cs m hi hx
    exact (Array.getElem?_eq_some_iff.1 hb).1
  | loop l =>
    obtain ⟨l', hb, _⟩ := h.loop a b o l hi hx
    exact (Array.getElem?_eq_some_iff.1 hb).1
  | dead => exact absurd hx hd
  | room => exact absurd rfl hr

theorem Le.put {A' : AMem} {ι' : Iota} {W' : World} (n bn on : Nat)
    (hA : ∀ a : Nat, a ≠ n → A'[a]? = A[a]?) (hι : ∀ a, a ≠ n → ι' a = ι a) (hn : ι' n = some (bn, on))
    (hold : A[n]? ≠ some .dead ∧ ((ι n = none ∧ A.length ≤ n) ∨ ι n = some (bn, on)))
    (hlen : A.length ≤ A'.length)
    (hsz : ∀ b, szW W b ≤ szW W' b)
    (hv : ∀ cs m, A[n]? = some (.cells cs m) → A'[n]? = some .dead ∨ ∃ cs' m', A'[n]? = some (.cells cs' m') ∧ m.ver ≤ m'.ver ∧ (m'.ver = m.ver → cs' = cs)) : Le A ι W A' ι' W' := by
  refine ⟨fun a ha => ?_, fun a b o hi => ?_, hsz, .put n hA hv, hlen, fun a ha hz => ?_⟩
  · by_cases e : a = n
    · subst e; exact absurd ha hold.1
    · rw [hA a e]; exact ha
  · by_cases e : a = n
    · subst e
      rcases hold.2 with ⟨h0, _⟩ | h1
      · rw [h0] at hi; cases hi
      · rw [h1] at hi; cases hi; exact .inr hn
    · exact .inr (by rw [hι a e]; exact hi)
  · by_cases e : a = n
    · subst e
      rcases hold.2 with ⟨_, h0⟩ | h1
      · omega
      · rw [h1] at hz; cases hz
    · rw [hι a e]; exact hz

theorem Sim.put (h : Sim P base A ι W) {A' : AMem} {ι' : Iota} {W' : World} (n bn on : Nat) (x : AObj)
    (hA : ∀ a : Nat, a ≠ n → A'[a]? = A[a]?) (hx : A'[n]? = some x) (hι : ∀ a, a ≠ n → ι' a = ι a) (hn : ι' n = some (bn, on))
    (hle : Le A ι W A' ι' W')
    (hfree : ∀ a o, a ≠ n → ι a = some (bn, o) → A[a]? = some .dead)
    (hW : ∀ b, b ≠ bn → b < W.heap.size → W'.heap[b]? = W.heap[b]?) (hroom : x ≠ .room)
    (hc : ∀ cs m, x = .cells cs m → ∃ cs' t fr, W'.heap[bn]? = some (.cells cs' t fr) ∧ on + cs.length ≤ cs'.size ∧
      (∀ (j : Nat) (v : Value), cs[j]? = some v → ∃ v', cs'[on + j]? = some v' ∧ VRel A' ι' W' v v') ∧ (m.ro = false → fr = (0, 0) ∧ base ≤ bn))
    (hl : ∀ l, x = .loop l → ∃ l', W'.heap[bn]? = some (.loop l') ∧ LoopRel P A' ι' W' l l' ∧ base ≤ bn)
    (hlf : ∀ cs m, x = .cells cs m → cs.all leafV = true) : Sim P base A' ι' W' := by
  have off : ∀ a b o, a ≠ n → ι a = some (b, o) → A[a]? ≠ some .dead → W'.heap[b]? = W.heap[b]? := fun a b o e hi hd => by
    refine hW b (fun hb => ?_) (h.inW hi hd)
    subst hb
    exact hd (hfree a o e hi)
  refine ⟨fun a b o hi => ?_, fun a b o cs m hi hcs => ?_, fun a b o l hi hcs => ?_, fun a b o cs m hi hcs => ?_, fun a a' b o o' hne h1 h2 hw => ?_⟩
  · by_cases e : a = n
    · subst e; exact ⟨x, hx, hroom⟩
    · rw [hι a e] at hi
      rw [hA a e]
      exact h.has a b o hi
  · by_cases e : a = n
    · subst e
      rw [hn] at hi; cases hi
      rw [hx] at hcs; cases hcs
      exact hc cs m rfl
    · rw [hι a e] at hi
      rw [hA a e] at hcs
      obtain ⟨cs', t, fr, hb, h1, h2, h3⟩ := h.cells a b o cs m hi hcs
      refine ⟨cs', t, fr, (off a b o e hi (by rw [hcs]; simp)).trans hb, h1, fun j v hv => ?_, h3⟩
      obtain ⟨v', q1, q2⟩ := h2 j v hv
      exact ⟨v', q1, q2.mono hle⟩
  · by_cases e : a = n
    · subst e
      rw [hn] at hi; cases hi
      rw [hx] at hcs; cases hcs
      exact hl l rfl
    · rw [hι a e] at hi
      rw [hA a e] at hcs
      obtain ⟨l', hb, h1, h2⟩ := h.loop a b o l hi hcs
      exact ⟨l', (off a b o e hi (by rw [hcs]; simp)).trans hb, h1.mono hle, h2⟩
  · by_cases e : a = n
    · subst e
      rw [hx] at hcs; cases hcs
      exact hlf cs m rfl
    · rw [hι a e] at hi
      rw [hA a e] at hcs
      exact h.leaf a b o cs m hi hcs
  · by_cases e : a = n
    · subst e
      rw [hn] at h1; cases h1
      rw [hι a' (Ne.symm hne)] at h2
      rw [hA a' (Ne.symm hne)]
      exact hfree a' o' (Ne.symm hne) h2
    · rw [hι a e] at h1
      have hw' : Wrt A a := by
        rcases hw with ⟨cs, m, q, r⟩ | ⟨l, q⟩
        · rw [hA a e] at q; exact .inl ⟨cs, m, q, r⟩
        · rw [hA a e] at q; exact .inr ⟨l, q⟩
      by_cases e' : a' = n
      · subst e'
        rw [hn] at h2; cases h2
        have := hfree a o e h1
        rcases hw' with ⟨cs, m, q, r⟩ | ⟨l, q⟩ <;> (rw [this] at q; cases q)
      · rw [hι a' e'] at h2
        rw [hA a' e']
        exact h.sep a a' b o o' hne h1 h2 hw'

/-- A block is given up. -/
theorem Sim.kill (h : Sim P base A ι W) (a : Nat) (hr : A[a]? ≠ some .room) : Sim P base (A.set a .dead) ι W ∧ Le A ι W (A.set a .dead) ι W := by
  have get : ∀ a' : Nat, (A.set a .dead)[a']? = if a = a' then (if a' < A.length then some .dead else none) else A[a']? := fun a' => by
    rw [List.getElem?_set]
    by_cases e : a = a'
    · subst e; simp
    · simp [e]
  have hle : Le A ι W (A.set a .dead) ι W := by
    refine ⟨fun a' hd => ?_, fun a' b o hi => ?_, fun _ => Nat.le_refl _, .put a (fun a' e => by rw [get, if_neg (Ne.symm e)]) fun cs m h => .inl (by rw [get, if_pos rfl, if_pos (List.getElem?_eq_some_iff.1 h).1]), by simp, fun _ _ h => h⟩
    · rw [get]
      split
      · rw [if_pos (List.getElem?_eq_some_iff.1 hd).1]
      · exact hd
    · by_cases e : a = a'
      · left; rw [get, if_pos e, if_pos (h.lt hi)]
      · exact .inr hi
  refine ⟨⟨fun a' b o hi => ?_, fun a' b o cs m hi hcs => ?_, fun a' b o l hi hcs => ?_, fun a' b o cs m hi hcs => ?_, fun a1 a2 b o o' hne h1 h2 hw => ?_⟩, hle⟩
  · rw [get]
    split
    · rw [if_pos (h.lt hi)]; exact ⟨.dead, rfl, by simp⟩
    · exact h.has a' b o hi
  · rw [get] at hcs
    split at hcs
    · split at hcs <;> cases hcs
    · obtain ⟨cs', t, fr, hb, q1, q2, q3⟩ := h.cells a' b o cs m hi hcs
      refine ⟨cs', t, fr, hb, q1, fun j v hv => ?_, q3⟩
      obtain ⟨v', r1, r2⟩ := q2 j v hv
      exact ⟨v', r1, r2.mono hle⟩
  · rw [get] at hcs
    split at hcs
    · split at hcs <;> cases hcs
    · obtain ⟨l', hb, q1, q2⟩ := h.loop a' b o l hi hcs
      exact ⟨l', hb, q1.mono hle, q2⟩
  · rw [get] at hcs
    split at hcs
    · split at hcs <;> cases hcs
    · exact h.leaf a' b o cs m hi hcs
  · have hw' : Wrt A a1 := by
      rcases hw with ⟨cs, m, q, r⟩ | ⟨l, q⟩
      · rw [get] at q; split at q
        · split at q <;> cases q
        · exact .inl ⟨cs, m, q, r⟩
      · rw [get] at q; split at q
        · split at q <;> cases q
        · exact .inr ⟨l, q⟩
    have := h.sep a1 a2 b o o' hne h1 h2 hw'
    rw [get]; split
    · rw [if_pos (h.lt h2)]
    · exact this

/-- Room is kept for blocks. -/
theorem Sim.rooms (h : Sim P base A ι W) (k : Nat) : Sim P base (A ++ List.replicate k .room) ι W ∧ Le A ι W (A ++ List.replicate k .room) ι W := by
  have get : ∀ a : Nat, a < A.length → (A ++ List.replicate k AObj.room)[a]? = A[a]? := fun a ha => List.getElem?_append_left ha
  have back : ∀ (a : Nat) (x : AObj), (A ++ List.replicate k AObj.room)[a]? = some x → x ≠ .room → A[a]? = some x := fun a x hx hr => by
    by_cases ha : a < A.length
    · rwa [get a ha] at hx
    · rw [List.getElem?_append_right (by omega), List.getElem?_replicate] at hx
      split at hx
      · exact absurd (Option.some.inj hx).symm hr
      · cases hx
  have hle : Le A ι W (A ++ List.replicate k .room) ι W := by
    refine ⟨fun a hd => ?_, fun a b o hi => .inr hi, fun _ => Nat.le_refl _, fun a cs m h => .inr ⟨cs, m, by rw [get a (List.getElem?_eq_some_iff.1 h).1]; exact h, Nat.le_refl _, fun _ => rfl⟩, by simp, fun _ _ h => h⟩
    rw [get a (List.getElem?_eq_some_iff.1 hd).1]; exact hd
  refine ⟨⟨fun a b o hi => ?_, fun a b o cs m hi hcs => ?_, fun a b o l hi hcs => ?_, fun a b o cs m hi hcs => h.leaf a b o cs m hi (back _ _ hcs (by simp)), fun a1 a2 b o o' hne h1 h2 hw => ?_⟩, hle⟩
  · rw [get a (h.lt hi)]; exact h.has a b o hi
  · obtain ⟨cs', t, fr, hb, q1, q2, q3⟩ := h.cells a b o cs m hi (back _ _ hcs (by simp))
    refine ⟨cs', t, fr, hb, q1, fun j v hv => ?_, q3⟩
    obtain ⟨v', r1, r2⟩ := q2 j v hv
    exact ⟨v', r1, r2.mono hle⟩
  · obtain ⟨l', hb, q1, q2⟩ := h.loop a b o l hi (back _ _ hcs (by simp))
    exact ⟨l', hb, q1.mono hle, q2⟩
  · rw [get a2 (h.lt h2)]
    refine h.sep a1 a2 b o o' hne h1 h2 ?_
    rcases hw with ⟨cs, m, q, r⟩ | ⟨l, q⟩
    · exact .inl ⟨cs, m, back _ _ q (by simp), r⟩
    · exact .inr ⟨l, back _ _ q (by simp)⟩

/-! #### worlds -/

theorem szW_alloc (o : Obj) (b : Nat) : szW W b ≤ szW (W.alloc o) b := by
  unfold szW
  by_cases hb : b < W.heap.size
  · rw [Below.heap_alloc W o b hb]; exact Nat.le_refl _
  · rw [Array.getElem?_eq_none (by omega)]; exact Nat.zero_le _

theorem heap_alloc_self (o : Obj) : (W.alloc o).heap[W.heap.size]? = some o := by
  show (W.heap.push o)[W.heap.size]? = some o
  simp

theorem Ev.alloc_w (hb : base ≤ W.heap.size) (o : Obj) : Below base W (W.alloc o) ∧
    (∀ (r : Nat) (ds : Option (List Deferred)), W.heap[r]? = some (.deferred ds) → (W.alloc o).heap[r]? = some (.deferred ds)) ∧
    (∀ (r : Nat) (l : Loop), W.heap[r]? = some (.loop l) → ∃ l', (W.alloc o).heap[r]? = some (.loop l')) :=
  ⟨(Below.refl _ _).alloc hb o, fun r ds e => (Below.heap_alloc W o r (Array.getElem?_eq_some_iff.1 e).1).trans e,
   fun r l e => ⟨l, (Below.heap_alloc W o r (Array.getElem?_eq_some_iff.1 e).1).trans e⟩⟩

def upd (ι : Iota) (n b o : Nat) : Iota := fun a => if a = n then some (b, o) else ι a
theorem upd_same (n b o : Nat) : upd ι n b o n = some (b, o) := if_pos rfl
theorem upd_other (n b o : Nat) (a : Nat) (h : a ≠ n) : upd ι n b o a = ι a := if_neg h

/-- A new block in both memories: at place n of the abstract one. -/
theorem Sim.newCells (h : Sim P base A ι W) (hb : base ≤ W.heap.size) {A' : AMem} (n : Nat) (hn : ι n = none) (hnd : A[n]? = none) (hlen' : A.length ≤ A'.length)
    (hA : ∀ a : Nat, a ≠ n → A'[a]? = A[a]?) (cs : List Value) (m : Meta) (hx : A'[n]? = some (.cells cs m)) (hlf : cs.all leafV = true) (cs' : Array Value) (t : TypeId)
    (hlen : cs.length ≤ cs'.size) (hr : ∀ (j : Nat) (v : Value), cs[j]? = some v → ∃ v', cs'[j]? = some v' ∧ VRel A ι W v v') :
    Sim P base A' (upd ι n W.heap.size 0) (W.alloc (.cells cs' t)) ∧ Ev base A ι W A' (upd ι n W.heap.size 0) (W.alloc (.cells cs' t)) := by
  have hle : Le A ι W A' (upd ι n W.heap.size 0) (W.alloc (.cells cs' t)) :=
    Le.put n W.heap.size 0 hA (upd_other n _ _) (upd_same n _ _) ⟨by rw [hnd]; simp, .inl ⟨hn, List.getElem?_eq_none_iff.1 hnd⟩⟩ hlen' (szW_alloc _) (fun cs m e => by rw [hnd] at e; cases e)
  obtain ⟨e1, e2, e3⟩ := Ev.alloc_w (W := W) hb (.cells cs' t)
  refine ⟨h.put n W.heap.size 0 (.cells cs m) hA hx (upd_other n _ _) (upd_same n _ _) hle (fun a o _ hi => ?_) (fun b _ hlt => Below.heap_alloc _ _ _ hlt) (by simp) ?_ (fun l hl => by cases hl) (fun cs0 m0 e => by cases e; exact hlf), ⟨hle, e1, e2, e3⟩⟩
  · by_cases hd : A[a]? = some .dead
    · exact hd
    · exact absurd (h.inW hi hd) (Nat.lt_irrefl _)
  · intro cs0 m0 e
    cases e
    refine ⟨cs', t, (0, 0), heap_alloc_self _, by omega, fun j v hv => ?_, fun _ => ⟨rfl, hb⟩⟩
    obtain ⟨v', q1, q2⟩ := hr j v hv
    exact ⟨v', by rw [Nat.zero_add]; exact q1, q2.mono hle⟩

/-- A block of the model's alone. -/
theorem Sim.allocW (h : Sim P base A ι W) (hb : base ≤ W.heap.size) (o : Obj) : Sim P base A ι (W.alloc o) ∧ Ev base A ι W A ι (W.alloc o) := by
  have hle : Le A ι W A ι (W.alloc o) := ⟨fun _ h => h, fun _ _ _ h => .inr h, szW_alloc o, .refl _, Nat.le_refl _, fun _ _ h => h⟩
  obtain ⟨e1, e2, e3⟩ := Ev.alloc_w (W := W) hb o
  have off : ∀ (b : Nat) (x : Obj), W.heap[b]? = some x → (W.alloc o).heap[b]? = some x := fun b x hx =>
    (Below.heap_alloc W o b (Array.getElem?_eq_some_iff.1 hx).1).trans hx
  refine ⟨⟨h.has, fun a b o cs m hi hcs => ?_, fun a b o l hi hcs => ?_, h.leaf, h.sep⟩, ⟨hle, e1, e2, e3⟩⟩
  · obtain ⟨cs', t, fr, hb, q1, q2, q3⟩ := h.cells a b o cs m hi hcs
    refine ⟨cs', t, fr, off _ _ hb, q1, fun j v hv => ?_, q3⟩
    obtain ⟨v', r1, r2⟩ := q2 j v hv
    exact ⟨v', r1, r2.mono hle⟩
  · obtain ⟨l', hb, q1, q2⟩ := h.loop a b o l hi hcs
    exact ⟨l', off _ _ hb, q1.mono hle, q2⟩

/-- Draws turn nothing. -/
theorem Sim.of_heap (h : Sim P base A ι W) {W' : World} (hh : W'.heap = W.heap) (ho : W'.os = W.os) (ht : W'.tape = W.tape) (hp : W'.output = W.output) :
    Sim P base A ι W' ∧ Ev base A ι W A ι W' := by
  have hsz : ∀ b, szW W b = szW W' b := fun b => by unfold szW; rw [hh]
  have hle : Le A ι W A ι W' := ⟨fun _ h => h, fun _ _ _ h => .inr h, fun b => Nat.le_of_eq (hsz b), .refl _, Nat.le_refl _, fun _ _ h => h⟩
  refine ⟨⟨h.has, fun a b o cs m hi hcs => ?_, fun a b o l hi hcs => ?_, h.leaf, h.sep⟩, ⟨hle, ⟨ho, ht, hp, by rw [hh]; exact Nat.le_refl _, fun k _ => by rw [hh]⟩, fun r ds e => by rw [hh]; exact e, fun r l e => ⟨l, by rw [hh]; exact e⟩⟩⟩
  · obtain ⟨cs', t, fr, hb, q1, q2, q3⟩ := h.cells a b o cs m hi hcs
    refine ⟨cs', t, fr, by rw [hh]; exact hb, q1, fun j v hv => ?_, q3⟩
    obtain ⟨v', r1, r2⟩ := q2 j v hv
    exact ⟨v', r1, r2.mono hle⟩
  · obtain ⟨l', hb, q1, q2⟩ := h.loop a b o l hi hcs
    exact ⟨l', by rw [hh]; exact hb, q1.mono hle, q2⟩

end
end Go.Ax
