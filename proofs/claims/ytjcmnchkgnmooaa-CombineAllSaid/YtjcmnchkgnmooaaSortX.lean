/- slices.Sort and slices.Compact at []int, as contracts from without. -/
import Derived.Test.YtjcmnchkgnmooaaAxC
import Derived.Test.YtjcmnchkgnmooaaLaysP
set_option linter.unusedVariables false
set_option linter.unusedSimpArgs false
namespace Go.Proofs.Ytjcmnchkgnmooaa
open Go Go.Ax Go.RowKit Go.Sort

/-! ### what they do -/

def ins (x : Int) : List Int → List Int
  | [] => [x]
  | y :: l => if x ≤ y then x :: y :: l else y :: ins x l
def isort : List Int → List Int
  | [] => []
  | x :: l => ins x (isort l)

def sortH (args : List Value) (A : AMem) : Res :=
  match args with
  | [.slice none 0 0] => some (.tuple #[], A)
  | [.slice (some p) n c] => if n = 0 ∨ 1000000 < n then none else (A.rd p.block p.off n).bind fun vs => (intsOf .i64 vs).bind fun zs => (A.wr p.block p.off ((isort zs).map (Value.int .i64))).bind fun A' => some (.tuple #[], A')
  | _ => none

def compactH (args : List Value) (A : AMem) : Res :=
  match args with
  | [.slice none 0 0] => some (.slice none 0 0, A)
  | [.slice (some p) n c] => if n = 0 ∨ 1000000 < n then none else (A.rd p.block p.off n).bind fun vs => (intsOf .i64 vs).bind fun zs => (A.wr p.block p.off ((Lib.compact zs ++ List.replicate (zs.length - (Lib.compact zs).length) 0).map (Value.int .i64))).bind fun A' => some (.slice (some p) (Lib.compact zs).length c, A')
  | _ => none

theorem ins_perm (x : Int) : ∀ l : List Int, (ins x l).Perm (x :: l)
  | [] => .refl _
  | y :: l => by
    unfold ins
    split
    · exact .refl _
    · exact ((ins_perm x l).cons y).trans (.swap x y l)

theorem isort_perm : ∀ l : List Int, (isort l).Perm l
  | [] => .refl _
  | x :: l => (ins_perm x _).trans ((isort_perm l).cons x)

theorem ins_sorted (x : Int) : ∀ l : List Int, l.Pairwise (· ≤ ·) → (ins x l).Pairwise (· ≤ ·)
  | [], _ => by simp [ins]
  | y :: l, h => by
    obtain ⟨h1, h2⟩ := List.pairwise_cons.1 h
    unfold ins
    split
    · rename_i hxy
      exact List.pairwise_cons.2 ⟨fun z hz => by
        rcases List.mem_cons.1 hz with rfl | hz
        · exact hxy
        · exact Int.le_trans hxy (h1 z hz), h⟩
    · rename_i hxy
      refine List.pairwise_cons.2 ⟨fun z hz => ?_, ins_sorted x l h2⟩
      rcases List.mem_cons.1 ((ins_perm x l).mem_iff.1 hz) with rfl | hz
      · omega
      · exact h1 z hz

theorem isort_sorted : ∀ l : List Int, (isort l).Pairwise (· ≤ ·)
  | [] => List.Pairwise.nil
  | x :: l => ins_sorted x _ (isort_sorted l)

/-- Two sorted lists of the same numbers are one. -/
theorem sorted_one : ∀ (l k : List Int), l.Pairwise (· ≤ ·) → k.Pairwise (· ≤ ·) → l.Perm k → l = k
  | [], k, _, _, h => by rw [List.nil_perm.1 h]
  | x :: l, [], _, _, h => by have := h.length_eq; simp at this
  | x :: l, y :: k, hl, hk, h => by
    obtain ⟨l1, l2⟩ := List.pairwise_cons.1 hl
    obtain ⟨k1, k2⟩ := List.pairwise_cons.1 hk
    have e : x = y := by
      have h1 : x ∈ y :: k := h.mem_iff.1 (by simp)
      have h2 : y ∈ x :: l := h.mem_iff.2 (by simp)
      rcases List.mem_cons.1 h1 with e | e
      · exact e
      · rcases List.mem_cons.1 h2 with e2 | e2
        · exact e2.symm
        · have := k1 x e; have := l1 y e2; omega
    subst e
    rw [sorted_one l k l2 k2 (List.perm_cons x |>.1 h)]

theorem isort_merge (l : List Int) : l.mergeSort (fun x y => decide (x ≤ y)) = isort l := by
  refine sorted_one _ _ ?_ (isort_sorted l) ((List.mergeSort_perm l _).trans (isort_perm l).symm)
  have := List.pairwise_mergeSort (le := fun x y : Int => decide (x ≤ y)) (by intro a b c h1 h2; simp at *; omega) (by intro a b; simp; omega) l
  exact this.imp fun h => by simpa using h

/-! ### a row that is written anew -/

section
variable {P : Program} {base : Nat} {A : AMem} {ι : Iota} {W : World}

theorem rowStep (h : Sim P base A ι W) {a b o off : Nat} {d : List Int} {A' : AMem} (hi : ι a = some (b, o)) (hw : AMem.wr A a off (d.map (Value.int .i64)) = some A') {W' : World} {q : Nat} {os : Array Obj}
    (hW' : W' = grow (putRow (Value.int .i64) (Go.Sort.ahead W q) b (o + off) d.toArray) os) : Sim P base A' ι W' ∧ Ev base A ι W A' ι W' := by
  obtain ⟨cs, m, hA, hro, hlen, rfl⟩ := wr_inv hw
  rw [List.length_map] at hlen
  have halt : a < A.length := h.lt hi
  obtain ⟨cs', t, fr, hb, h1, h2, h3⟩ := h.cells a b o cs m hi hA
  obtain ⟨rfl, hbase⟩ := h3 hro
  have hblt : b < W.heap.size := (Array.getElem?_eq_some_iff.1 hb).1
  have hh : ∀ k, k < W.heap.size → W'.heap[k]? = if b = k then (W.heap[k]?).map (onCells (putCells (Value.int .i64) (o + off) d.toArray)) else W.heap[k]? := fun k hk => by
    rw [hW']
    show ((W.heap.modify b _) ++ os)[k]? = _
    rw [Array.getElem?_append, if_pos (by simpa using hk), Array.getElem?_modify]
  have hsame : W'.heap[b]? = some (.cells (putCells (Value.int .i64) (o + off) d.toArray cs') t (0, 0)) := by rw [hh b hblt, if_pos rfl, hb]; rfl
  have hoth : ∀ k, k ≠ b → k < W.heap.size → W'.heap[k]? = W.heap[k]? := fun k hk hlt => by rw [hh k hlt, if_neg (Ne.symm hk)]
  have hsize : W.heap.size ≤ W'.heap.size := by
    rw [hW']
    show W.heap.size ≤ ((W.heap.modify b _) ++ os).size
    simp
  have hpsz : (putCells (Value.int .i64) (o + off) d.toArray cs').size = cs'.size := by simp [putCells]
  have hget : ∀ j : Nat, j < cs'.size → (putCells (Value.int .i64) (o + off) d.toArray cs')[j]? = if o + off ≤ j ∧ j < o + off + d.length then some (.int .i64 (d.getD (j - (o + off)) 0)) else cs'[j]? := fun j hj => by
    unfold putCells
    rw [Array.getElem?_mapIdx, Array.getElem?_eq_getElem hj]
    simp only [Option.map_some, List.size_toArray]
    split
    · rename_i hc
      have hl : j - (o + off) < d.length := by omega
      congr 2
      rw [getElem!_pos d.toArray (j - (o + off)) (by simpa using hl), List.getD_eq_getElem?_getD, List.getElem?_eq_getElem hl]
      simp
    · rfl
  have hsz : ∀ k, szW W k ≤ szW W' k := fun k => by
    unfold szW
    by_cases e : k = b
    · subst e; rw [hb, hsame]; simp [hpsz]
    · by_cases hlt : k < W.heap.size
      · rw [hoth k e hlt]; exact Nat.le_refl _
      · rw [Array.getElem?_eq_none (by omega)]; exact Nat.zero_le _
  have hga : ∀ a' : Nat, a' ≠ a → (A.set a (AObj.cells (wrL cs off (d.map (Value.int .i64))) { m with ver := m.ver + 1 }))[a']? = A[a']? := fun a' e => by
    rw [List.getElem?_set, if_neg (Ne.symm e)]
  have hself : (A.set a (AObj.cells (wrL cs off (d.map (Value.int .i64))) { m with ver := m.ver + 1 }))[a]? = some (.cells (wrL cs off (d.map (Value.int .i64))) { m with ver := m.ver + 1 }) := by
    rw [List.getElem?_set, if_pos rfl, if_pos halt]
  have hle : Go.Ax.Le A ι W (A.set a (AObj.cells (wrL cs off (d.map (Value.int .i64))) { m with ver := m.ver + 1 })) ι W' :=
    Go.Ax.Le.put a b o hga (fun _ _ => rfl) hi ⟨by rw [hA]; simp, .inr hi⟩ (by simp) hsz (fun cs0 m0 e => .inr ⟨_, _, hself, by rw [hA] at e; cases e; simp, fun e' => by rw [hA] at e; cases e; simp at e'⟩)
  refine ⟨h.put a b o _ hga hself (fun _ _ => rfl) hi hle (fun a' o' hne hi' => h.sep a a' b o o' (Ne.symm hne) hi hi' (.inl ⟨cs, m, hA, hro⟩)) (fun k hk hlt => hoth k hk hlt) (by simp) ?_ (fun l e => by cases e) (fun cs0 m0 e => by cases e; exact wrL_leaf _ cs off (h.leaf a b o cs m hi hA) (by simp [leafV])), ⟨hle, ?_, fun r ds e => ?_, fun r l e => ?_⟩⟩
  · intro cs0 m0 e
    cases e
    refine ⟨_, t, (0, 0), hsame, by rw [wrL_length, hpsz]; exact h1, fun j v hj => ?_, fun _ => ⟨rfl, hbase⟩⟩
    rw [wrL_get _ cs off (by rw [List.length_map]; exact hlen)] at hj
    rw [List.length_map] at hj
    split at hj
    · rename_i hr
      rw [hget _ (by omega), if_pos (by omega)]
      rw [List.getElem?_map] at hj
      obtain ⟨z, hz, rfl⟩ := Option.map_eq_some_iff.1 hj
      refine ⟨_, rfl, ?_⟩
      rw [show o + j - (o + off) = j - off by omega, List.getD_eq_getElem?_getD, hz]
      exact .flat _ rfl
    · rename_i hr
      obtain ⟨v', q1, q2⟩ := h2 j v hj
      have := (Array.getElem?_eq_some_iff.1 q1).1
      rw [hget _ this, if_neg (by omega)]
      exact ⟨v', q1, q2.mono hle⟩
  · refine ⟨by rw [hW']; rfl, by rw [hW']; rfl, by rw [hW']; rfl, hsize, fun k hk => ?_⟩
    exact hoth k (by omega) (by omega)
  · have hlt := (Array.getElem?_eq_some_iff.1 e).1
    rw [hoth r (fun er => by subst er; rw [hb] at e; cases e) hlt]; exact e
  · have hlt := (Array.getElem?_eq_some_iff.1 e).1
    exact ⟨l, by rw [hoth r (fun er => by subst er; rw [hb] at e; cases e) hlt]; exact e⟩

/-- What a row holds, in the world. -/
theorem rowHolds (h : Sim P base A ι W) {a b o off n : Nat} {vs : List Value} {zs d : List Int} {A' : AMem} (hi : ι a = some (b, o)) (hr : A.rd a off n = some vs) (hz : intsOf .i64 vs = some zs) (hw : AMem.wr A a off (d.map (Value.int .i64)) = some A') :
    zs.length = n ∧ b < W.heap.size ∧ Holds (Value.int .i64) W b (o + off) zs.toArray := by
  obtain ⟨cs, m, hA, hro, hlen, rfl⟩ := wr_inv hw
  obtain ⟨cs', t, fr, hb, h1, h2, h3⟩ := h.cells a b o cs m hi hA
  obtain ⟨rfl, hbase⟩ := h3 hro
  obtain ⟨r1, r2⟩ := rd_inv hr
  have hv := intsOf_some hz
  have hzl : zs.length = n := by rw [hv] at r1; simpa using r1
  refine ⟨hzl, (Array.getElem?_eq_some_iff.1 hb).1, fun j hj => ?_⟩
  have hj' : j < zs.length := by simpa using hj
  have h4 := r2 j (.int .i64 zs[j]) (by rw [hv, List.getElem?_map, List.getElem?_eq_getElem hj']; rfl)
  unfold AMem.ld at h4
  rw [hA] at h4
  simp only at h4
  obtain ⟨v', q1, q2⟩ := h2 _ _ h4
  rw [int_inv q2] at q1
  refine ⟨?_, ?_⟩
  · unfold World.cell?
    simp only [hb]
    rw [getElem!_pos zs.toArray j (by simpa using hj')]
    simpa [Nat.add_assoc] using q1
  · unfold World.frozen?
    simp only [hb]
    simp
end

theorem compact_len (zs : List Int) : (Lib.compact zs).length ≤ zs.length := by
  unfold Lib.compact Lib.compactUpTo
  rw [List.length_map]
  exact Nat.le_trans (List.length_filter_le _ _) (by simp)

theorem call16 (W : World) (args : Array Value) : (callFunc 16 args).run Try.prog W = .ok (.enter 16 args) W := by
  have f1 : Try.prog.funcs[16]? = some Try.f16 := by kernel_rfl
  obtain ⟨body, f2⟩ : ∃ body, Try.f16.body = some body := ⟨Try.f16.body.getD .skip, by kernel_rfl⟩
  have f3 : (Try.f16.name == "runtime.NumGoroutine") = false := by kernel_rfl
  have f3' : ¬ Try.f16.name = "runtime.NumGoroutine" := by simpa using f3
  simp [callFunc, f1, f2, f3']

theorem call17 (W : World) (args : Array Value) : (callFunc 17 args).run Try.prog W = .ok (.enter 17 args) W := by
  have f1 : Try.prog.funcs[17]? = some Try.f17 := by kernel_rfl
  obtain ⟨body, f2⟩ : ∃ body, Try.f17.body = some body := ⟨Try.f17.body.getD .skip, by kernel_rfl⟩
  have f3 : (Try.f17.name == "runtime.NumGoroutine") = false := by kernel_rfl
  have f3' : ¬ Try.f17.name = "runtime.NumGoroutine" := by simpa using f3
  simp [callFunc, f1, f2, f3']

theorem sort_ext : ExtOk Try.prog 16 sortH := by
  intro args A r hk base ι W args' hs ha hb
  refine ⟨call16 W args', ?_⟩
  have one : ∀ {v : Value}, args = [v] → ∃ v', args' = #[v'] ∧ VRel A ι W v v' := fun {v} e => by
    subst e
    obtain ⟨v', rest, e1, e2, e3⟩ := ha.inv
    have := e3.inv_nil; subst this
    exact ⟨v', by rw [← Array.toArray_toList (xs := args'), e1], e2⟩
  unfold sortH at hk
  split at hk
  · cases hk
    obtain ⟨v', rfl, hv⟩ := one rfl
    rw [(nilslice_inv hv).2.2]
    exact (Any.slices_Sort_int_none laySort none 0 W).mono fun e w' ⟨he, hw⟩ => ⟨.tuple #[], ι, he, by rw [hw]; exact hs, by rw [hw]; exact .refl _ _ _ _, .undef'⟩
  · rename_i p n c
    split at hk
    · cases hk
    rename_i hn0
    obtain ⟨v', rfl, hv⟩ := one rfl
    obtain ⟨vs, r1, hk1⟩ := Option.bind_eq_some_iff.1 hk
    obtain ⟨zs, r2, hk2⟩ := Option.bind_eq_some_iff.1 hk1
    obtain ⟨A', r3, hk3⟩ := Option.bind_eq_some_iff.1 hk2
    cases hk3
    obtain ⟨q, c', rfl, hnc, hd⟩ := slice_inv hv
    rcases hd with ⟨h0, _⟩ | ⟨hsp, hd | ⟨b, o, hi, rfl, hcap⟩⟩
    · exact absurd h0 (by omega)
    · obtain ⟨cs, m, hA, _⟩ := wr_inv r3
      rw [hA] at hd; cases hd
    · obtain ⟨hzl, hlt, hH⟩ := rowHolds hs hi r1 r2 r3
      subst hzl
      refine (Any.slices_Sort_int laySort b (o + p.off) c' zs W hH hlt (by omega)).mono fun e w' ⟨he, k, os, hw⟩ => ?_
      rw [isort_merge] at hw
      obtain ⟨s2, ev⟩ := rowStep hs hi r3 hw
      exact ⟨.tuple #[], ι, he, s2, ev, .undef'⟩
  · cases hk

theorem compact_ext : ExtOk Try.prog 17 compactH := by
  intro args A r hk base ι W args' hs ha hb
  refine ⟨call17 W args', ?_⟩
  have one : ∀ {v : Value}, args = [v] → ∃ v', args' = #[v'] ∧ VRel A ι W v v' := fun {v} e => by
    subst e
    obtain ⟨v', rest, e1, e2, e3⟩ := ha.inv
    have := e3.inv_nil; subst this
    exact ⟨v', by rw [← Array.toArray_toList (xs := args'), e1], e2⟩
  unfold compactH at hk
  split at hk
  · cases hk
    obtain ⟨v', rfl, hv⟩ := one rfl
    rw [(nilslice_inv hv).2.2]
    exact (Any.slices_Compact_int_empty layCompact none 0 W).mono fun e w' ⟨he, hw⟩ => ⟨.slice none 0 0, ι, he, by rw [hw]; exact hs, by rw [hw]; exact .refl _ _ _ _, .flat _ rfl⟩
  · rename_i p n c
    split at hk
    · cases hk
    rename_i hn0
    obtain ⟨v', rfl, hv⟩ := one rfl
    obtain ⟨vs, r1, hk1⟩ := Option.bind_eq_some_iff.1 hk
    obtain ⟨zs, r2, hk2⟩ := Option.bind_eq_some_iff.1 hk1
    obtain ⟨A', r3, hk3⟩ := Option.bind_eq_some_iff.1 hk2
    cases hk3
    obtain ⟨q, c', rfl, hnc, hd⟩ := slice_inv hv
    rcases hd with ⟨h0, _⟩ | ⟨hsp, hd | ⟨b, o, hi, rfl, hcap⟩⟩
    · exact absurd h0 (by omega)
    · obtain ⟨cs, m, hA, _⟩ := wr_inv r3
      rw [hA] at hd; cases hd
    · obtain ⟨hzl, hlt, hH⟩ := rowHolds hs hi r1 r2 r3
      subst hzl
      have hle : (Lib.compact zs).length ≤ zs.length := compact_len zs
      refine (Any.slices_Compact_int layCompact b (o + p.off) c' zs W hH (by omega) (by omega)).mono fun e w' ⟨he, k, hw⟩ => ?_
      obtain ⟨s2, ev⟩ := rowStep (W' := w') (os := #[]) hs hi r3 (by rw [grow_empty]; exact hw)
      refine ⟨_, ι, he, s2, ev, .slice p _ c c' b o ?_ hsp (by omega) fun hz => Nat.le_trans (hcap hz) (ev.le.size b)⟩
      exact hi
  · cases hk

theorem sort_grow (args : List Value) (A : AMem) (r : Value × AMem) (hk : sortH args A = some r) : Grow A r.2 := by
  unfold sortH at hk
  split at hk
  · cases hk; exact .refl _
  · split at hk
    · cases hk
    obtain ⟨vs, r1, hk1⟩ := Option.bind_eq_some_iff.1 hk
    obtain ⟨zs, r2, hk2⟩ := Option.bind_eq_some_iff.1 hk1
    obtain ⟨A', r3, hk3⟩ := Option.bind_eq_some_iff.1 hk2
    cases hk3
    exact .wr r3
  · cases hk

theorem compact_grow (args : List Value) (A : AMem) (r : Value × AMem) (hk : compactH args A = some r) : Grow A r.2 := by
  unfold compactH at hk
  split at hk
  · cases hk; exact .refl _
  · split at hk
    · cases hk
    obtain ⟨vs, r1, hk1⟩ := Option.bind_eq_some_iff.1 hk
    obtain ⟨zs, r2, hk2⟩ := Option.bind_eq_some_iff.1 hk1
    obtain ⟨A', r3, hk3⟩ := Option.bind_eq_some_iff.1 hk2
    cases hk3
    exact .wr r3
  · cases hk

end Go.Proofs.Ytjcmnchkgnmooaa
