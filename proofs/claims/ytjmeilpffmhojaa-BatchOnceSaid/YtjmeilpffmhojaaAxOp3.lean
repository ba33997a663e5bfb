/- New blocks; loads and stores. -/
import Derived.Test.YtjmeilpffmhojaaAxOp2
import Derived.Laws.MakeOwn
set_option linter.unusedVariables false
set_option linter.unusedSimpArgs false
namespace Go.Ax
open Go Go.RowKit

section
variable {P : Program} {base : Nat} {rec : Rec} {oc : Oper}

/-- A new block, as the model makes it. -/
def NewOk (P : Program) (oc : Oper) (act : Act) (A : AMem) (ι : Iota) (W : World) (mk : Nat → Value) (cs : List Value) (m : Meta) : Prop :=
  cs.all leafV = true ∧ ∃ (cs' : Array Value) (ty : TypeId) (mk' : Nat → Value), (execOp act.eval oc).run P W = .ok (.value (mk' W.heap.size)) (W.alloc (.cells cs' ty)) ∧ cs.length ≤ cs'.size ∧
    (∀ (j : Nat) (v : Value), cs[j]? = some v → ∃ v', cs'[j]? = some v' ∧ VRel A ι W v v') ∧
    ∀ (A' : AMem) (ι' : Iota) (a : Nat), ι' a = some (W.heap.size, 0) → VRel A' ι' (W.alloc (.cells cs' ty)) (mk a) (mk' W.heap.size)

def NewsOk (P : Program) (oc : Oper) (op : AOp) : Prop :=
  ∀ (t : List Value) (A : AMem) (ι : Iota) (W : World) (act : Act) (K : (Nat → Value) → AObj → Res) (r : Value × AMem),
    LRel A ι W t act.tmps.toList → newK op t K = some r → ∃ mk cs m, K mk (.cells cs m) = some r ∧ m.ro = false ∧ NewOk P oc act A ι W mk cs m

theorem NewOk.done {act : Act} {A : AMem} {ι : Iota} {W : World} {mk : Nat → Value} {cs : List Value} {m : Meta} (h : NewOk P oc act A ι W mk cs m)
    (hs : Sim P base A ι W) (hb : base ≤ W.heap.size) : Done P base oc act A ι W (mk A.length) (A ++ [.cells cs m]) := by
  obtain ⟨hlf, cs', ty, mk', h1, h2, h3, h4⟩ := h
  have hx : (A ++ [AObj.cells cs m])[A.length]? = some (.cells cs m) := by simp
  obtain ⟨k1, k2⟩ := hs.newCells hb (A' := A ++ [.cells cs m]) A.length hs.fresh (by simp) (by simp) (fun a ha => by
      by_cases hlt : a < A.length
      · rw [List.getElem?_append_left hlt]
      · rw [List.getElem?_eq_none (by simp; omega), List.getElem?_eq_none (by omega)]) cs m hx hlf cs' ty h2 h3
  exact ⟨_, _, _, _, h1, .inl rfl, k1, k2, h4 _ _ _ (upd_same _ _ _)⟩

theorem new_ok {op : AOp} (h : NewsOk P oc op) (hop : ∀ (t : List Value) (A : AMem) (K : Value → AMem → Res), opK rec op t A K = newK op t fun mk blk => K (mk A.length) (A ++ [blk])) :
    OpOk P base rec oc op := by
  intro t A ι W act K r hs ht hb hk
  rw [hop] at hk
  obtain ⟨mk, cs, m, h1, h2, h3⟩ := h t A ι W act _ r ht hk
  exact ⟨_, _, h1, h3.done hs hb⟩

theorem zeroL_inv {t : TypeId} {z : List Value} (h : zeroL P t = some z) : ∃ i zv, P.info? t = some i ∧ i.zero = some zv ∧ cellsL zv = z ∧ z.length = i.size ∧ z.all flatLeaf = true := by
  unfold zeroL at h
  obtain ⟨i, h1, h2⟩ := Option.bind_eq_some_iff.1 h
  obtain ⟨zv, h3, h4⟩ := Option.bind_eq_some_iff.1 h2
  split at h4
  · rename_i hc
    cases h4
    exact ⟨i, zv, h1, h3, rfl, hc.1, hc.2⟩
  · cases h4

theorem run_zero {t : TypeId} {i : TypeInfo} {z : Value} (hi : P.info? t = some i) (hz : i.zero = some z) (W : World) : (zeroValue t).run P W = .ok z W := by
  simp [zeroValue, typeInfo, hi, hz]

theorem flat_all {A : AMem} {ι : Iota} {W : World} {z : List Value} (h : z.all flatLeaf = true) {j : Nat} {v : Value} (hj : z[j]? = some v) : VRel A ι W v v := by
  rw [List.all_eq_true] at h
  exact .flat _ (h v (List.mem_iff_getElem?.2 ⟨j, hj⟩))

theorem flat_leaf {v : Value} (h : flatLeaf v = true) : leafV v = true := by
  cases v <;> simp_all [flatLeaf, leafV]

theorem flats_leaf {z : List Value} (h : z.all flatLeaf = true) : z.all leafV = true := by
  rw [List.all_eq_true] at h ⊢
  exact fun v hv => flat_leaf (h v hv)

theorem replL_leaf (n : Nat) {z : List Value} (h : z.all leafV = true) : (replL n z).all leafV = true := by
  rw [List.all_eq_true] at h ⊢
  intro v hv
  refine h v ?_
  unfold replL at hv
  split at hv
  · rw [List.eq_of_mem_replicate hv]; simp
  · obtain ⟨l, hl, hvl⟩ := List.mem_flatten.1 hv
    rw [List.eq_of_mem_replicate hl] at hvl
    exact hvl

theorem fillL_leaf : ∀ (qs : List (Nat × Nat × Value)) (c o : List Value), fillL c qs = some o → c.all leafV = true → o.all leafV = true := by
  intro qs
  induction qs with
  | nil => intro c o e h; cases e; exact h
  | cons q qs ih =>
    intro c o e h
    simp only [fillL] at e
    split at e
    · rename_i hc
      exact ih _ _ e (wrL_leaf _ _ _ h hc.2.2)
    · cases e

theorem alloc_new {e : TypeId} {z : List Value} (h : oc.op = .alloc e) (hz : zeroL P e = some z) : NewsOk P oc (.alloc z) := by
  intro t A ι W act K r ht hk
  obtain ⟨i, zv, h1, h2, h3, h4, h5⟩ := zeroL_inv hz
  refine ⟨_, _, _, hk, rfl, flats_leaf h5, zv.cells, e, fun a => .pointer (some ⟨a, 0, none⟩), ?_, ?_, fun j v hv => ?_, fun A' ι' a hi => ?_⟩
  · simp [execOp, h, Instr.alloc, run_zero h1 h2, newVar, newRow]
  · rw [← h3]; exact Nat.le_of_eq (by rw [← cells_toList]; simp)
  · refine ⟨v, ?_, flat_all h5 hv⟩
    rw [← h3, ← cells_toList] at hv; simpa using hv
  · exact .ptr ⟨a, 0, none⟩ _ 0 hi

theorem box_new {e : TypeId} {x : Operand} (h : oc.op = .box e x) : NewsOk P oc (.box x) := by
  intro t A ι W act K r ht hk
  have hx := ev_rel ht x
  simp only [newK] at hk
  split at hk
  · rename_i hl
    have hr := cellsL_rel hx hl
    refine ⟨_, _, _, hk, rfl, hl, (act.eval x).cells, e, fun a => .pointer (some ⟨a, 0, none⟩), ?_, ?_, fun j v hv => ?_, fun A' ι' a hi => ?_⟩
    · simp [execOp, h, Instr.box, newVar, newRow]
    · rw [hr.1]; exact Nat.le_of_eq (by rw [← cells_toList]; simp)
    · obtain ⟨v', e1, e2⟩ := hr.get hv
      refine ⟨v', ?_, e2⟩
      rw [← cells_toList] at e1; simpa using e1
    · exact .ptr ⟨a, 0, none⟩ _ 0 hi
  · cases hk

theorem replL_length (n : Nat) (z : List Value) : (replL n z).length = n * z.length := by
  unfold replL
  split
  · simp
  · simp

theorem replicate_flatten_get (n : Nat) (z : List Value) (j : Nat) (hj : j < n * z.length) : (List.replicate n z).flatten[j]? = z[j % z.length]? := by
  induction n generalizing j with
  | zero => simp at hj
  | succ n ih =>
    rw [List.replicate_succ, List.flatten_cons]
    by_cases h : j < z.length
    · rw [List.getElem?_append_left h, Nat.mod_eq_of_lt h]
    · rw [List.getElem?_append_right (by omega), ih _ (by rw [Nat.add_mul, Nat.one_mul] at hj; omega)]
      congr 1
      exact (Nat.mod_eq_sub_mod (by omega)).symm

theorem replL_get (n : Nat) (z : List Value) (j : Nat) (hj : j < n * z.length) : (replL n z)[j]? = z[j % z.length]? := by
  unfold replL
  split
  · rename_i v
    simp at hj
    simp [List.getElem?_replicate, hj, Nat.mod_one]
  · exact replicate_flatten_get n z j hj

theorem madeCells_get (z : Array Value) (n : Nat) (j : Nat) (hj : j < n) (hz : 0 < z.size) : (madeCells z n)[j]? = z[j % z.size]? := by
  have hlt : j % z.size < z.size := Nat.mod_lt _ hz
  simp [madeCells, hj, hlt, getElem!_pos]

theorem makeSlice_new {T e : TypeId} {l c : Operand} {z : List Value} {i : TypeInfo} (h : oc.op = .makeSlice T l c) (hT : P.underlying T = some (.slice e)) (hz : zeroL P e = some z)
    (hi : P.info? e = some i) (hpos : 0 < i.size) : NewsOk P oc (.makeSlice i.size i.bytes z l c) := by
  intro t A ι W act K r ht hk
  have hl := ev_rel ht l
  have hc := ev_rel ht c
  obtain ⟨i', zv, h1, h2, h3, h4, h5⟩ := zeroL_inv hz
  rw [hi] at h1; cases h1
  simp only [newK] at hk
  split at hk
  · rename_i kl lv kc cv e1 e2
    rw [e1] at hl; rw [e2] at hc
    have hl' := int_inv hl
    have hc' := int_inv hc
    split at hk
    · rename_i hcond
      obtain ⟨c1, c2, c3, c4⟩ := hcond
      have hzs : zv.cells.size = i.size := by rw [← h4, ← h3, ← cells_toList]; simp
      have hrun := run_make (P := P) W T e i zv hT hi h2 kl kc lv cv c1 c2 (by rw [Int.mul_comm]; omega) (by omega)
      refine ⟨_, _, _, hk, rfl, replL_leaf _ (flats_leaf h5), madeCells zv.cells (cv.toNat * i.size), e, fun a => .slice (some ⟨a, 0, none⟩) lv.toNat cv.toNat, ?_, ?_, fun j v hv => ?_, fun A' ι' a hia => ?_⟩
      · simp [execOp, h, hl', hc', hrun]
      · rw [replL_length, size_madeCells, h4]
        exact Nat.mul_le_mul_right _ (by omega)
      · have hj : j < lv.toNat * i.size := by
          have := (List.getElem?_eq_some_iff.1 hv).1
          rwa [replL_length, h4] at this
        rw [replL_get _ _ _ (by rw [h4]; exact hj)] at hv
        refine ⟨v, ?_, flat_all h5 hv⟩
        rw [madeCells_get _ _ _ (Nat.lt_of_lt_of_le hj (Nat.mul_le_mul_right _ (by omega))) (by omega), hzs, ← h4]
        rw [← h3, ← cells_toList] at hv ⊢
        simpa using hv
      · refine .slice ⟨a, 0, none⟩ _ _ _ _ 0 hia rfl (by omega) fun _ => ?_
        unfold szW
        rw [heap_alloc_self]
        simp [size_madeCells]
    · cases hk
  · cases hk

/-! #### what is filled in -/

theorem foldl_fill (off : Nat) : ∀ (l : List Value) (k : Nat) (cs : Array Value),
    ((l.zipIdx k).foldl (fun cs (p : Value × Nat) => cs.setIfInBounds (off + p.2) p.1) cs).toList = wrL cs.toList (off + k) l
  | [], k, cs => rfl
  | v :: l, k, cs => by
    simp only [List.zipIdx_cons, List.foldl_cons, wrL]
    rw [foldl_fill off l (k + 1)]
    simp [Nat.add_assoc]

theorem fill_ok {A : AMem} {ι : Iota} {W : World} (place : Nat → Option (Nat × Nat)) : ∀ (ps : List (Nat × Value)) (qs : List (Nat × Nat × Value)) (cells : List Value) (cells' : Array Value) (out : List Value),
    LRel A ι W cells cells'.toList → qs.length = ps.length →
    (∀ (j : Nat) (p : Nat × Value) (q : Nat × Nat × Value), ps[j]? = some p → qs[j]? = some q → place p.1 = some (q.1, q.2.1) ∧ VRel A ι W q.2.2 p.2) →
    fillL cells qs = some out →
    ∃ out', Instr.fill place cells' ps = some out' ∧ LRel A ι W out out'.toList
  | [], [], cells, cells', out, hr, _, _, h => by
    cases h
    exact ⟨cells', rfl, hr⟩
  | p :: ps, q :: qs, cells, cells', out, hr, hlen, hpq, h => by
    obtain ⟨i, v⟩ := p
    obtain ⟨off, n, u⟩ := q
    obtain ⟨hp, hv⟩ := hpq 0 _ _ rfl rfl
    simp only at hp hv
    simp only [fillL] at h
    split at h
    · rename_i hc
      have hl := hc.2.2
      have hcr := cellsL_rel hv hl
      have hvs : v.cells.size = n := by rw [← hc.1, hcr.1, ← cells_toList]; simp
      have hcl : cells.length = cells'.size := by have := hr.1; simpa using this
      unfold Instr.fill
      rw [hp]
      simp only
      rw [if_neg (by simp [hvs]; omega)]
      have hstep : LRel A ι W (wrL cells off (cellsL u)) ((v.cells.zipIdx.foldl (fun cs (c, j) => cs.setIfInBounds (off + j) c) cells').toList) := by
        have e := foldl_fill off v.cells.toList 0 cells'
        rw [← Array.foldl_toList, Array.toList_zipIdx]
        rw [show (v.cells.toList.zipIdx.foldl (fun cs (x : Value × Nat) => match x with | (c, j) => cs.setIfInBounds (off + j) c) cells') = (v.cells.toList.zipIdx.foldl (fun cs (p : Value × Nat) => cs.setIfInBounds (off + p.2) p.1) cells') from rfl]
        rw [e, cells_toList, Nat.add_zero]
        refine ⟨by rw [wrL_length, wrL_length]; exact hr.1, fun j x x' e1 e2 => ?_⟩
        rw [wrL_get _ _ _ (by rw [hc.1]; exact hc.2.1)] at e1
        rw [wrL_get _ _ _ (by rw [← hcr.1, hc.1, Array.length_toList, ← hcl]; exact hc.2.1), ← hcr.1] at e2
        split at e1
        · rename_i hin; rw [if_pos hin] at e2; exact hcr.2 _ x x' e1 e2
        · rename_i hin; rw [if_neg hin] at e2; exact hr.2 _ x x' e1 e2
      exact fill_ok place ps qs _ _ out hstep (by simpa using hlen) (fun j p' q' e1 e2 => hpq (j + 1) p' q' e1 e2) h
    · cases h
  | [], _ :: _, _, _, _, _, hlen, _, _ => by simp at hlen
  | _ :: _, [], _, _, _, _, hlen, _, _ => by simp at hlen


theorem parts_ok {A : AMem} {ι : Iota} {W : World} {t : List Value} {act : Act} (ht : LRel A ι W t act.tmps.toList) (place : Nat → Option (Nat × Nat)) :
    ∀ (ps : List (Nat × Operand)) (qs : List (Nat × Nat × Operand)), partsOf place ps = some qs →
      (qs.map fun p => (p.1, p.2.1, ev t p.2.2)).length = (ps.map fun (i, x) => (i, act.eval x)).length ∧
      ∀ (j : Nat) (p : Nat × Value) (q : Nat × Nat × Value), (ps.map fun (i, x) => (i, act.eval x))[j]? = some p → (qs.map fun p => (p.1, p.2.1, ev t p.2.2))[j]? = some q →
        place p.1 = some (q.1, q.2.1) ∧ VRel A ι W q.2.2 p.2
  | [], qs, h => by
    simp [partsOf] at h; subst h
    exact ⟨rfl, fun j p q e => by simp at e⟩
  | (i, x) :: ps, qs, h => by
    simp only [partsOf, List.mapM_cons] at h
    obtain ⟨q, h1, h2⟩ := Option.bind_eq_some_iff.1 h
    obtain ⟨qs', h3, h4⟩ := Option.bind_eq_some_iff.1 h2
    cases h4
    obtain ⟨w, h5, h6⟩ := Option.map_eq_some_iff.1 h1
    subst h6
    obtain ⟨k1, k2⟩ := parts_ok ht place ps qs' h3
    refine ⟨by simpa using k1, fun j p q e1 e2 => ?_⟩
    cases j with
    | zero => simp at e1 e2; subst e1; subst e2; exact ⟨h5, ev_rel ht x⟩
    | succ j => simp at e1 e2; exact k2 j p q (by simpa using e1) (by simpa using e2)

theorem run_places {fs : List Field} (h : fs.all (fun f => (sizeT P f.type).isSome) = true) (W : World) :
    ∃ l : List (Nat × Nat), (fs.mapM fun f => (do pure (f.offset, ← sizeOf f.type) : Sem (Nat × Nat))).run P W = .ok l W ∧ ∀ i : Nat, l[i]? = (fs[i]?).bind fun f => (sizeT P f.type).map fun n => (f.offset, n) := by
  induction fs with
  | nil => exact ⟨[], by simp, fun i => by simp⟩
  | cons f fs ih =>
    simp only [List.all_cons, Bool.and_eq_true] at h
    obtain ⟨n, hn⟩ := Option.isSome_iff_exists.1 h.1
    obtain ⟨l, h1, h2⟩ := ih h.2
    refine ⟨(f.offset, n) :: l, ?_, fun i => ?_⟩
    · have := run_sizeOf hn W
      simp only [List.mapM_cons, Sem.run_bind, this, Result.andThen_ok, Sem.run_pure, Sem.run_map, h1] at h1 ⊢
    · cases i with
      | zero => simp [hn]
      | succ i => simpa using h2 i

theorem build_struct_ok {T : TypeId} {ps : Array (Nat × Operand)} {fs : Array Field} {z : List Value} {qs : List (Nat × Nat × Operand)} (h : oc.op = .build T ps) (hT : P.underlying T = some (.struct fs))
    (hall : fs.toList.all (fun f => (sizeT P f.type).isSome) = true) (hz : zeroL P T = some z)
    (hq : partsOf (fun i => fs[i]?.bind fun f => (sizeT P f.type).map fun n => (f.offset, n)) ps.toList = some qs) : OpOk P base rec oc (.build z qs) := by
  intro t A ι W act K r hs ht hb hk
  obtain ⟨i, zv, h1, h2, h3, h4, h5⟩ := zeroL_inv hz
  simp only [opK] at hk
  obtain ⟨cs, k1, k2⟩ := Option.bind_eq_some_iff.1 hk
  obtain ⟨p1, p2⟩ := parts_ok ht _ ps.toList qs hq
  have hzr : LRel A ι W z zv.cells.toList := by
    rw [cells_toList, h3]
    exact ⟨rfl, fun j v v' e e' => by rw [e] at e'; cases e'; exact flat_all h5 e⟩
  obtain ⟨out', f1, f2⟩ := fill_ok (fun i => fs[i]?.bind fun f => (sizeT P f.type).map fun n => (f.offset, n)) _ _ z zv.cells cs hzr p1 p2 k1
  obtain ⟨l, g1, g2⟩ := run_places (P := P) hall W
  refine ⟨_, A, k2, .pure hs (v' := .agg out') ?_ (agg_of_LRel f2)⟩
  have hpl : (fun i : Nat => (fs[i]?).bind fun (f : Field) => (sizeT P f.type).map fun n => (f.offset, n)) = (fun i => l.toArray[i]?) := by
    funext i
    have e : l.toArray[i]? = l[i]? := by simp
    rw [e, g2]; simp
  rw [hpl] at f1
  have hm : (fs.mapM fun f => (do pure (f.offset, ← sizeOf f.type) : Sem (Nat × Nat))).run P W = .ok l.toArray W := by
    rw [← Array.toArray_toList (xs := fs), List.mapM_toArray, Sem.run_map, g1]
    rfl
  simp only [execOp, h, Instr.build]
  rw [Sem.run_bind, Sem.run_bind, run_zero h1 h2]
  simp only [Result.andThen_ok, Sem.run_bind, run_underlying hT, hm]
  rw [show (ps.map fun x => (x.fst, act.eval x.snd)).toList = ps.toList.map fun (i, x) => (i, act.eval x) by simp, f1]
  rfl

theorem build_array_ok {T e : TypeId} {ps : Array (Nat × Operand)} {len n : Nat} {z : List Value} {qs : List (Nat × Nat × Operand)} (h : oc.op = .build T ps) (hT : P.underlying T = some (.array len e))
    (hn : sizeT P e = some n) (hz : zeroL P T = some z) (hq : partsOf (fun i => some (i * n, n)) ps.toList = some qs) : OpOk P base rec oc (.build z qs) := by
  intro t A ι W act K r hs ht hb hk
  obtain ⟨i, zv, h1, h2, h3, h4, h5⟩ := zeroL_inv hz
  simp only [opK] at hk
  obtain ⟨cs, k1, k2⟩ := Option.bind_eq_some_iff.1 hk
  obtain ⟨p1, p2⟩ := parts_ok ht _ ps.toList qs hq
  have hzr : LRel A ι W z zv.cells.toList := by
    rw [cells_toList, h3]
    exact ⟨rfl, fun j v v' e e' => by rw [e] at e'; cases e'; exact flat_all h5 e⟩
  obtain ⟨out', f1, f2⟩ := fill_ok (fun i => some (i * n, n)) _ _ z zv.cells cs hzr p1 p2 k1
  refine ⟨_, A, k2, .pure hs (v' := .agg out') ?_ (agg_of_LRel f2)⟩
  simp only [execOp, h, Instr.build]
  rw [Sem.run_bind, Sem.run_bind, run_zero h1 h2]
  simp only [Result.andThen_ok, Sem.run_bind, run_underlying hT, run_sizeOf hn]
  rw [show (ps.map fun x => (x.fst, act.eval x.snd)).toList = ps.toList.map fun (i, x) => (i, act.eval x) by simp, f1]
  rfl

theorem buildSlice_new {T e : TypeId} {len n : Nat} {ps : Array (Nat × Operand)} {z : List Value} {qs : List (Nat × Nat × Operand)} (h : oc.op = .buildSlice T len ps) (hT : P.underlying T = some (.slice e))
    (hn : sizeT P e = some n) (hz : zeroL P e = some z) (hle : len * n ≤ 16777216) (hpos : 0 < n) (hq : partsOf (fun i => some (i * n, n)) ps.toList = some qs) :
    NewsOk P oc (.buildSlice n len (replL len z) qs) := by
  intro t A ι W act K r ht hk
  obtain ⟨i, zv, h1, h2, h3, h4, h5⟩ := zeroL_inv hz
  have hin : i.size = n := by unfold sizeT at hn; rw [h1] at hn; simpa using hn
  simp only [newK] at hk
  obtain ⟨cs, k1, k2⟩ := Option.bind_eq_some_iff.1 hk
  obtain ⟨p1, p2⟩ := parts_ok ht _ ps.toList qs hq
  have hzs : zv.cells.size = n := by rw [← hin, ← h4, ← h3, ← cells_toList]; simp
  have hzr : LRel A ι W (replL len z) (madeCells zv.cells (len * n)).toList := by
    refine ⟨by rw [replL_length, h4, hin, Array.length_toList (xs := madeCells zv.cells (len * n)), size_madeCells], fun j v v' e e' => ?_⟩
    have hj : j < len * n := by have := (List.getElem?_eq_some_iff.1 e).1; rwa [replL_length, h4, hin] at this
    rw [replL_get _ _ _ (by rw [h4, hin]; exact hj)] at e
    rw [Array.getElem?_toList, madeCells_get _ _ _ hj (by omega), hzs, ← hin, ← h4] at e'
    have e2 : z[j % z.length]? = some v' := by rw [← h3, ← cells_toList] at e' ⊢; simpa using e'
    rw [e] at e2; cases e2
    exact flat_all h5 e
  obtain ⟨out', f1, f2⟩ := fill_ok (fun i => some (i * n, n)) _ _ (replL len z) (madeCells zv.cells (len * n)) cs hzr p1 p2 k1
  refine ⟨_, _, _, k2, rfl, fillL_leaf _ _ _ k1 (replL_leaf _ (flats_leaf h5)), out', e, fun a => .slice (some ⟨a, 0, none⟩) len len, ?_, ?_, fun j v hv => ?_, fun A' ι' a hia => ?_⟩
  · have hlim : ¬ (len * n > 2 ^ 24) := by omega
    simp only [execOp, h, Instr.buildSlice]
    rw [Sem.run_bind, Sem.run_bind, run_underlying hT]
    simp only [Result.andThen_ok, Sem.run_bind, run_sizeOf hn, if_neg hlim]
    by_cases h0 : len * n = 0
    · simp only [h0, if_true, pure_bind]
      have hmk : madeCells zv.cells (len * n) = (Array.range 0).map (fun x => (#[] : Array Value)[x % (#[] : Array Value).size]!) := by simp [madeCells, h0]
      rw [hmk] at f1
      rw [show (ps.map fun x => (x.fst, act.eval x.snd)).toList = ps.toList.map fun (i, x) => (i, act.eval x) by simp, f1]
      simp [newRow]
    · simp only [if_neg h0, Sem.run_bind, run_zero h1 h2, Result.andThen_ok, Sem.run_pure]
      have hmk : madeCells zv.cells (len * n) = (Array.range (len * n)).map (fun x => zv.cells[x % zv.cells.size]!) := rfl
      rw [hmk] at f1
      rw [show (ps.map fun x => (x.fst, act.eval x.snd)).toList = ps.toList.map fun (i, x) => (i, act.eval x) by simp, f1]
      simp [newRow]
  · rw [f2.1]; exact Nat.le_of_eq (by simp)
  · obtain ⟨v', q1, q2⟩ := f2.get hv
    exact ⟨v', by simpa using q1, q2⟩
  · refine .slice ⟨a, 0, none⟩ _ _ _ _ 0 hia rfl (Nat.le_refl _) fun _ => ?_
    unfold szW
    rw [heap_alloc_self]
    have hl : cs.length = len * n := by
      have := f2.1
      have key : ∀ (qs : List (Nat × Nat × Value)) (c o : List Value), fillL c qs = some o → o.length = c.length := by
        intro qs
        induction qs with
        | nil => intro c o e; cases e; rfl
        | cons q qs ih =>
          intro c o e
          simp only [fillL] at e
          split at e
          · rw [ih _ _ e, wrL_length]
          · cases e
      rw [key _ _ _ k1, replL_length, h4, hin]
    have := f2.1
    simp at this
    simp
    omega

end
end Go.Ax
