/- Stores, loads and rows in both memories. -/
import Derived.Test.YtjmeilpffmhojaaAxMem
set_option linter.unusedVariables false
namespace Go.Ax
open Go Go.RowKit

theorem wrL_length (cs : List Value) (o : Nat) (vs : List Value) : (wrL cs o vs).length = cs.length := by
  induction vs generalizing cs o with
  | nil => rfl
  | cons v vs ih => simp [wrL, ih]

theorem wrL_get (vs : List Value) : ∀ (cs : List Value) (o : Nat), o + vs.length ≤ cs.length → ∀ j : Nat,
    (wrL cs o vs)[j]? = if o ≤ j ∧ j < o + vs.length then vs[j - o]? else cs[j]? := by
  induction vs with
  | nil =>
    intro cs o _ j
    rw [if_neg (by simp)]; rfl
  | cons v vs ih =>
    intro cs o h j
    simp only [List.length_cons] at h
    simp only [wrL]
    rw [ih _ _ (by simp; omega), List.getElem?_set]
    simp only [List.length_cons]
    by_cases h1 : o + 1 ≤ j ∧ j < o + 1 + vs.length
    · rw [if_pos h1, if_pos (by omega)]
      obtain ⟨k, rfl⟩ : ∃ k, j = o + 1 + k := ⟨j - (o + 1), by omega⟩
      rw [show o + 1 + k - (o + 1) = k by omega, show o + 1 + k - o = k + 1 by omega]
      simp
    · rw [if_neg h1]
      by_cases h2 : o = j
      · subst h2
        rw [if_pos rfl, if_pos (by omega), if_pos (by omega)]; simp
      · rw [if_neg h2, if_neg (by omega)]

theorem wrL_leaf (vs : List Value) : ∀ (cs : List Value) (o : Nat), cs.all leafV = true → vs.all leafV = true → (wrL cs o vs).all leafV = true := by
  induction vs with
  | nil => intro cs o h _; exact h
  | cons v vs ih =>
    intro cs o h hv
    simp only [List.all_cons, Bool.and_eq_true] at hv
    refine ih _ _ ?_ hv.2
    rw [List.all_eq_true] at h ⊢
    intro x hx
    rcases List.mem_or_eq_of_mem_set hx with hm | rfl
    · exact h x hm
    · exact hv.1

theorem oneCell_of_leaf {v : Value} (h : leafV v = true) : v.oneCell' = true := by
  cases v <;> simp_all [leafV, Value.oneCell']

section
variable {P : Program} {base : Nat} {A : AMem} {ι : Iota} {W : World}

theorem LRel.leaf {l l' : List Value} (h : LRel A ι W l l') (hl : l.all leafV = true) : ∀ v ∈ l', v.oneCell' = true := by
  intro v hv
  obtain ⟨j, hj⟩ := List.mem_iff_getElem?.1 hv
  have hlt : j < l.length := by rw [h.1]; exact (List.getElem?_eq_some_iff.1 hj).1
  refine oneCell_of_leaf (leafV_rel (h.2 j _ v (List.getElem?_eq_getElem hlt) hj) ?_)
  rw [List.all_eq_true] at hl
  exact hl _ (List.getElem_mem hlt)

theorem wr_inv {A' : AMem} {a o : Nat} {vs : List Value} (h : AMem.wr A a o vs = some A') : ∃ cs m, A[a]? = some (.cells cs m) ∧ m.ro = false ∧ o + vs.length ≤ cs.length ∧
    A' = A.set a (.cells (wrL cs o vs) { m with ver := m.ver + 1 }) := by
  unfold AMem.wr at h
  split at h
  · rename_i cs m hA
    split at h
    · rename_i hc
      exact ⟨cs, m, hA, hc.1, hc.2, (Option.some.inj h).symm⟩
    · cases h
  · cases h

theorem seg_get (cur : List Value) (k : Nat) (vs : List Value) (hk : k + vs.length ≤ cur.length) (j : Nat) :
    (cur.take k ++ vs ++ cur.drop (k + vs.length))[j]? = if k ≤ j ∧ j < k + vs.length then vs[j - k]? else cur[j]? := by
  have hlen : (List.take k cur).length = k := by simp; omega
  by_cases h1 : j < k
  · rw [if_neg (by omega), List.getElem?_append_left (by simp; omega), List.getElem?_append_left (by omega), List.getElem?_take, if_pos h1]
  · by_cases h2 : j < k + vs.length
    · rw [if_pos (by omega), List.getElem?_append_left (by simp; omega), List.getElem?_append_right (by omega), hlen]
    · rw [if_neg (by omega), List.getElem?_append_right (by simp; omega), List.getElem?_drop]
      congr 1
      simp; omega

theorem Sim.write (h : Sim P base A ι W) {a b o off : Nat} {vs vs' : List Value} {A' : AMem} (hi : ι a = some (b, o)) (hw : AMem.wr A a off vs = some A')
    (hv : LRel A ι W vs vs') (hl : vs.all leafV = true) :
    ∃ W', (storeCells ⟨b, o + off, none⟩ vs').run P W = .ok () W' ∧ Sim P base A' ι W' ∧ Ev base A ι W A' ι W' := by
  obtain ⟨cs, m, hA, hro, hlen, rfl⟩ := wr_inv hw
  have halt : a < A.length := h.lt hi
  obtain ⟨cs', t, fr, hb, h1, h2, h3⟩ := h.cells a b o cs m hi hA
  obtain ⟨rfl, hbase⟩ := h3 hro
  have hrun := run_storeCells_at P b (o + off) t vs' 0 cs' W hb (by rw [← hv.1]; omega) (hv.leaf hl)
  simp only [Nat.add_zero] at hrun
  have hblt : b < W.heap.size := (Array.getElem?_eq_some_iff.1 hb).1
  refine ⟨_, hrun, ?_⟩
  generalize hnew : (cs'.toList.take (o + off) ++ vs' ++ cs'.toList.drop (o + off + vs'.length)).toArray = new at *
  have hnget : ∀ j : Nat, new[j]? = if o + off ≤ j ∧ j < o + off + vs'.length then vs'[j - (o + off)]? else cs'[j]? := fun j => by
    rw [← hnew]
    have := seg_get cs'.toList (o + off) vs' (by rw [← hv.1]; simpa using by omega) j
    simpa using this
  have hnsz : new.size = cs'.size := by
    rw [← hnew]; simp; rw [← hv.1]; omega
  have hheap := setRow_heap W b cs' new t (0, 0) hb
  have hoth := fun k (hk : k ≠ b) => setRow_other W b k new hk
  have hsz : ∀ k, szW W k ≤ szW (W.setRow b new) k := fun k => by
    unfold szW
    by_cases e : k = b
    · subst e; rw [hb, hheap]; simp [hnsz]
    · rw [hoth k e]; exact Nat.le_refl _
  have hget : ∀ a' : Nat, a' ≠ a → (A.set a (AObj.cells (wrL cs off vs) { m with ver := m.ver + 1 }))[a']? = A[a']? := fun a' e => by
    rw [List.getElem?_set, if_neg (Ne.symm e)]
  have hself : (A.set a (AObj.cells (wrL cs off vs) { m with ver := m.ver + 1 }))[a]? = some (.cells (wrL cs off vs) { m with ver := m.ver + 1 }) := by
    rw [List.getElem?_set, if_pos rfl, if_pos halt]
  have hle : Le A ι W (A.set a (AObj.cells (wrL cs off vs) { m with ver := m.ver + 1 })) ι (W.setRow b new) :=
    Le.put a b o hget (fun _ _ => rfl) hi ⟨by rw [hA]; simp, .inr hi⟩ (by simp) hsz (fun cs0 m0 e => .inr ⟨_, _, hself, by rw [hA] at e; cases e; simp, fun e' => by rw [hA] at e; cases e; simp at e'⟩)
  refine ⟨h.put a b o _ hget hself (fun _ _ => rfl) hi hle (fun a' o' hne hi' => h.sep a a' b o o' (Ne.symm hne) hi hi' (.inl ⟨cs, m, hA, hro⟩))
    (fun k hk _ => hoth k hk) (by simp) ?_ (fun l e => by cases e) (fun cs0 m0 e => by cases e; exact wrL_leaf vs cs off (h.leaf a b o cs m hi hA) hl), ?_⟩
  · intro cs0 m0 e
    cases e
    refine ⟨new, t, (0, 0), hheap, by rw [wrL_length, hnsz]; exact h1, fun j v hj => ?_, fun _ => ⟨rfl, hbase⟩⟩
    rw [wrL_get vs cs off hlen] at hj
    rw [hnget]
    split at hj
    · rename_i hr
      rw [if_pos (by rw [← hv.1]; omega), show o + j - (o + off) = j - off by omega]
      obtain ⟨v', q1, q2⟩ := hv.get hj
      exact ⟨v', q1, q2.mono hle⟩
    · rename_i hr
      rw [if_neg (by rw [← hv.1]; omega)]
      obtain ⟨v', q1, q2⟩ := h2 j v hj
      exact ⟨v', q1, q2.mono hle⟩
  · refine ⟨hle, ⟨rfl, rfl, rfl, by simp, fun k hk => hoth k (by omega)⟩, fun r ds e => ?_, fun r l e => ?_⟩
    · by_cases er : r = b
      · subst er; rw [hb] at e; cases e
      · rw [hoth r er]; exact e
    · by_cases er : r = b
      · subst er; rw [hb] at e; cases e
      · exact ⟨l, by rw [hoth r er]; exact e⟩

/-- One cell, in both. -/
theorem Sim.ld (h : Sim P base A ι W) {a b o i : Nat} {v : Value} (hi : ι a = some (b, o)) (hv : A.ld a i = some v) :
    ∃ v', W.cell? ⟨b, o + i, none⟩ = some v' ∧ VRel A ι W v v' := by
  unfold AMem.ld at hv
  split at hv
  · rename_i cs m hA
    obtain ⟨cs', t, fr, hb, h1, h2, h3⟩ := h.cells a b o cs m hi hA
    obtain ⟨v', q1, q2⟩ := h2 i v hv
    exact ⟨v', by simp [World.cell?, hb, q1], q2⟩
  · cases hv

theorem addr_add (b o i : Nat) : (⟨b, o, none⟩ : Addr).add i = ⟨b, o + i, none⟩ := by
  unfold Addr.add; split <;> simp_all

/-- Cells in a row, in both. -/
theorem Sim.lds (h : Sim P base A ι W) {a b o off : Nat} (hi : ι a = some (b, o)) (vs : List Value) (hv : ∀ j v, vs[j]? = some v → A.ld a (off + j) = some v) :
    ∃ vs', (loadCells ⟨b, o + off, none⟩ vs.length).run P W = .ok vs'.toArray W ∧ LRel A ι W vs vs' := by
  have hex : ∀ j, j < vs.length → ∃ v', W.cell? ⟨b, o + off + j, none⟩ = some v' ∧ ∀ v, vs[j]? = some v → VRel A ι W v v' := fun j hj => by
    obtain ⟨v', q1, q2⟩ := h.ld hi (hv j _ (List.getElem?_eq_getElem hj))
    refine ⟨v', by rw [Nat.add_assoc]; exact q1, fun v e => ?_⟩
    rw [List.getElem?_eq_getElem hj] at e
    cases e; exact q2
  have hch : ∃ f : Nat → Value, ∀ j, j < vs.length → W.cell? ⟨b, o + off + j, none⟩ = some (f j) ∧ ∀ v, vs[j]? = some v → VRel A ι W v (f j) := by
    refine ⟨fun j => if hj : j < vs.length then (hex j hj).choose else undef, fun j hj => ?_⟩
    simp only [dif_pos hj]
    exact (hex j hj).choose_spec
  obtain ⟨f, hf⟩ := hch
  have hrun := run_loadCells (P := P) W ⟨b, o + off, none⟩ vs.length f (fun j hj => by rw [addr_add]; exact (hf j hj).1)
  refine ⟨(List.range vs.length).map f, hrun, by simp, fun j v v' e e' => ?_⟩
  have hj : j < vs.length := (List.getElem?_eq_some_iff.1 e).1
  simp [hj] at e'
  subst e'
  exact (hf j hj).2 v e

theorem rd_inv {a o n : Nat} {vs : List Value} (h : A.rd a o n = some vs) : vs.length = n ∧ ∀ j v, vs[j]? = some v → A.ld a (o + j) = some v := by
  unfold AMem.rd at h
  split at h
  · rename_i cs m hA
    split at h
    · rename_i hc
      cases h
      refine ⟨by simp; omega, fun j v e => ?_⟩
      rw [List.getElem?_take] at e
      split at e
      · rw [List.getElem?_drop] at e
        simp [AMem.ld, hA, e]
      · cases e
    · cases h
  · cases h

end
end Go.Ax
