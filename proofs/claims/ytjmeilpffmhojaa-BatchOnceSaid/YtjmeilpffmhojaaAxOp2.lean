/- Operations that touch no memory; loads, stores, new blocks. -/
import Derived.Test.YtjmeilpffmhojaaAxOps
set_option linter.unusedVariables false
set_option linter.unusedSimpArgs false
namespace Go.Ax
open Go Go.RowKit

def OpOk (P : Program) (base : Nat) (rec : Rec) (oc : Oper) (op : AOp) : Prop :=
  ∀ (t : List Value) (A : AMem) (ι : Iota) (W : World) (act : Act) (K : Value → AMem → Res) (r : Value × AMem),
    Sim P base A ι W → LRel A ι W t act.tmps.toList → base ≤ W.heap.size → opK rec op t A K = some r →
    ∃ v A', K v A' = some r ∧ Done P base oc act A ι W v A'

section
variable {P : Program} {base : Nat} {rec : Rec} {oc : Oper}

theorem mv_ok {x : Operand} (h : oc.op = .move x ∨ oc.op = .assign x) : OpOk P base rec oc (.mv x) := by
  intro t A ι W act K r hs ht hb hk
  refine ⟨_, A, hk, .pure hs (v' := act.eval x) ?_ (ev_rel ht x)⟩
  rcases h with h | h <;> simp [execOp, h]

theorem pick_ok {c a b : Operand} (h : oc.op = .pick c a b) : OpOk P base rec oc (.pick c a b) := by
  intro t A ι W act K r hs ht hb hk
  have hc := ev_rel ht c
  have ha := ev_rel ht a
  have hb := ev_rel ht b
  simp only [opK] at hk
  split at hk
  · rename_i q hq
    rw [hq] at hc
    have hc' := bool_inv hc
    split at hk
    · rename_i x y hx hy
      rw [hx] at ha; rw [hy] at hb
      have ha' := bool_inv ha
      have hb' := bool_inv hb
      refine ⟨_, A, hk, .pure hs (v' := .bool (bif q then x else y)) ?_ (.flat _ rfl)⟩
      cases q <;> simp [execOp, h, hc', ha', hb', asBool]
    · refine ⟨_, A, hk, .pure hs (v' := if q then act.eval a else act.eval b) ?_ ?_⟩
      · simp [execOp, h, hc', asBool]
      · cases q
        · exact hb
        · exact ha
  · cases hk

theorem bin_ok {o : BinOp} {xT yT : TypeId} {x y : Operand} (h : oc.op = .binOp o xT x y yT) : OpOk P base rec oc (.bin o x y) := by
  intro t A ι W act K r hs ht hb hk
  simp only [opK] at hk
  obtain ⟨v, h1, h2, h3, h4, h5⟩ := binK_ok hk
  have hx := flatLeaf_eq (ev_rel ht x) h3
  have hy := flatLeaf_eq (ev_rel ht y) h4
  refine ⟨v, A, h1, .pure hs (v' := v) ?_ (.flat _ h2)⟩
  have := h5 xT x y W
  rw [hx, hy] at this
  simp only [execOp, h]
  rw [Sem.run_bind, this]; rfl

theorem binB_ok {o : BinOp} {xT yT : TypeId} {x y : Operand} (hT : P.underlying xT = some .bool) {neg : Bool} (ho : (o = .eql ∧ neg = false) ∨ (o = .neq ∧ neg = true))
    (h : oc.op = .binOp o xT x y yT) : OpOk P base rec oc (.binB neg x y) := by
  intro t A ι W act K r hs ht hb hk
  have hx := ev_rel ht x
  have hy := ev_rel ht y
  simp only [opK] at hk
  split at hk
  · rename_i a b ha hb
    rw [ha] at hx; rw [hb] at hy
    have hx' := bool_inv hx
    have hy' := bool_inv hy
    refine ⟨_, A, hk, .pure hs (v' := .bool (if neg then !(a == b) else a == b)) ?_ (.flat _ rfl)⟩
    have := run_eqBool (P := P) hT a b W
    rcases ho with ⟨rfl, rfl⟩ | ⟨rfl, rfl⟩ <;> simp [execOp, h, hx', hy', eqGuard, binOp, this]
  · cases hk

theorem un_ok {o : UnOp} {xT : TypeId} {x : Operand} (h : oc.op = .unOp o xT x) : OpOk P base rec oc (.un o x) := by
  intro t A ι W act K r hs ht hb hk
  have hx := ev_rel ht x
  simp only [opK, unK] at hk
  split at hk
  · rename_i k n ha
    rw [ha] at hx
    have hx' := int_inv hx
    exact ⟨_, A, hk, .pure hs (by simp [execOp, h, hx', Op.unary, Op.intArith]) (.flat _ rfl)⟩
  · rename_i b ha
    rw [ha] at hx
    have hx' := bool_inv hx
    exact ⟨_, A, hk, .pure hs (by simp [execOp, h, hx', Op.unary]) (.flat _ rfl)⟩
  · cases hk

theorem conv_ok {src dst : TypeId} {k ks : IntKind} {x : Operand} (h : oc.op = .convert src dst x) (hsrc : P.underlying src = some (.int ks)) (hdst : P.underlying dst = some (.int k)) :
    OpOk P base rec oc (.conv k x) := by
  intro t A ι W act K r hs ht hb hk
  have hx := ev_rel ht x
  simp only [opK] at hk
  split at hk
  · rename_i k' n ha
    rw [ha] at hx
    have hx' := int_inv hx
    exact ⟨_, A, hk, .pure hs (by simp [execOp, h, hx', convert, run_underlying hsrc, run_underlying hdst, Conv.intToInt]) (.flat _ rfl)⟩
  · cases hk

theorem eqNil_ok {o : BinOp} {xT yT : TypeId} {x y : Operand} {d : TypeDesc} {kind : Nat} (hT : P.underlying xT = some d) (ho : o = .eql ∨ o = .neq)
    (h : oc.op = .binOp o xT x y yT) {z : Operand} (hz : (nilKind d y = some kind ∧ z = x) ∨ (nilKind d x = some kind ∧ z = y)) : OpOk P base rec oc (.eqNil kind (o = .neq) z) := by
  intro t A ι W act K r hs ht hb hk
  simp only [opK] at hk
  obtain ⟨b, h1, h2⟩ := Option.bind_eq_some_iff.1 hk
  have hb' := isNil_rel h1 (ev_rel ht z)
  have hv : ∀ q : Bool, (if decide (o = BinOp.neq) = true then !q else q) = if o = .neq then !q else q := fun q => by by_cases e : o = .neq <;> simp [e]
  refine ⟨_, A, h2, .pure hs (v' := .bool (if o = .neq then !b else b)) ?_ (by rw [hv]; exact .flat _ rfl)⟩
  rcases hz with ⟨hn, rfl⟩ | ⟨hn, rfl⟩
  · obtain ⟨c, rfl, hr⟩ := run_eqNil hT hn hb'
    have := (hr o z (.const c) W ho).1
    simp only [execOp, h]
    rw [Sem.run_bind]
    exact (congrArg (Result.andThen · _) this).trans rfl
  · obtain ⟨c, rfl, hr⟩ := run_eqNil hT hn hb'
    have := (hr o (.const c) z W ho).2
    simp only [execOp, h]
    rw [Sem.run_bind]
    exact (congrArg (Result.andThen · _) this).trans rfl

theorem nilCheck_ok {x : Operand} (h : oc.op = .nilCheck x) : OpOk P base rec oc (.nilCheck x) := by
  intro t A ι W act K r hs ht hb hk
  have hx := ev_rel ht x
  simp only [opK] at hk
  split at hk
  · rename_i p ha
    rw [ha] at hx
    obtain ⟨q, hq, _⟩ := ptr_inv hx
    exact ⟨_, A, hk, .pure hs (v' := act.eval x) (by simp [execOp, h, hq]) hx⟩
  · cases hk
  · rename_i fn a b ha
    rw [ha] at hx
    split at hk
    · obtain ⟨x', y', hq, _⟩ := func_inv hx
      exact ⟨_, A, hk, .pure hs (v' := act.eval x) (by simp [execOp, h, hq]) hx⟩
    · obtain ⟨_, _, l', hq, _⟩ := yield_inv hx
      exact ⟨_, A, hk, .pure hs (v' := act.eval x) (by simp [execOp, h, hq]) hx⟩
    · cases hk
  · cases hk

theorem makeFunc_ok {g : FuncId} {a b : Array Operand} (h : oc.op = .makeFunc (.func g) a b) : OpOk P base rec oc (.makeFunc (.func g) a.toList b.toList) := by
  intro t A ι W act K r hs ht hb hk
  have ha := ev_list ht a.toList
  have hb := ev_list ht b.toList
  simp only [opK] at hk
  refine ⟨_, A, hk, .pure hs (v' := .func (.func g) (a.map act.eval) (b.map act.eval)) (by simp [execOp, h, Instr.makeFunc]) ?_⟩
  refine .func g _ _ _ _ (by simp) (by simp) (fun j v v' e e' => ha.2 j v v' (by simpa using e) (by simpa using e')) (fun j v v' e e' => hb.2 j v v' (by simpa using e) (by simpa using e'))

theorem extract_ok {x : Operand} {i : Nat} (h : oc.op = .extract x i) : OpOk P base rec oc (.extract x i) := by
  intro t A ι W act K r hs ht hb hk
  have hx := ev_rel ht x
  simp only [opK] at hk
  split at hk
  · rename_i vs ha
    rw [ha] at hx
    obtain ⟨v, h1, h2⟩ := Option.bind_eq_some_iff.1 hk
    obtain ⟨x', hq, hl⟩ := tuple_inv hx
    obtain ⟨v', e1, e2⟩ := hl.get h1
    exact ⟨v, A, h2, .pure hs (v' := v') (by simp [execOp, h, hq, Instr.extract]; simp at e1; simp [e1]) e2⟩
  · cases hk

theorem slice_any {p : Option Addr} {n c : Nat} {A : AMem} {ι : Iota} {W : World} {v' : Value} (h : VRel A ι W (.slice p n c) v') : ∃ q c', v' = .slice q n c' := by
  cases p with
  | none => obtain ⟨e1, e2, e3⟩ := nilslice_inv h; subst e1; exact ⟨none, 0, e3⟩
  | some p => obtain ⟨q, c', e, _⟩ := slice_inv h; exact ⟨some q, c', e⟩

theorem exec_call {act : Act} {o : Call} (h : oc.op = .call o) : execOp act.eval oc = (do let d ← resolve act.eval o oc.type; invoke d.target d.args) := by
  simp [execOp, h]

theorem args_of {o : Call} {xs : List Operand} (ha : o.args.toList = xs) : o.args = xs.toArray := by
  rw [← Array.toArray_toList (xs := o.args), ha]

theorem len_ok {o : Call} {T e : TypeId} {x : Operand} (h : oc.op = .call o) (hc : o.callee = .builtin .len) (ha : o.args.toList = [x]) (hT : o.argTypes[0]? = some T)
    (hd : P.underlying T = some (.slice e)) : OpOk P base rec oc (.len x) := by
  intro t A ι W act K r hs ht hb hk
  have hx := ev_rel ht x
  simp only [opK] at hk
  obtain ⟨n, h1, h2⟩ := Option.bind_eq_some_iff.1 hk
  unfold lenV at h1
  split at h1
  · rename_i p n' c he
    cases h1
    rw [he] at hx
    obtain ⟨q, c', hv⟩ := slice_any hx
    refine ⟨_, A, h2, .pure hs (v' := .int .i64 n) ?_ (.flat _ rfl)⟩
    rw [exec_call h]
    simp [resolve, hc, args_of ha, invoke, builtin, Builtin.len_, hT, hv, run_underlying hd, goInt]
  · cases h1

theorem lenS_ok {o : Call} {T : TypeId} {x : Operand} (h : oc.op = .call o) (hc : o.callee = .builtin .len) (ha : o.args.toList = [x]) (hT : o.argTypes[0]? = some T)
    (hd : P.underlying T = some .string) : OpOk P base rec oc (.lenS x) := by
  intro t A ι W act K r hs ht hb hk
  have hx := ev_rel ht x
  simp only [opK] at hk
  split at hk
  · rename_i s he
    rw [he] at hx
    have hv := string_inv hx
    refine ⟨_, A, hk, .pure hs (v' := .int .i64 s.size) ?_ (.flat _ rfl)⟩
    rw [exec_call h]
    simp [resolve, hc, args_of ha, invoke, builtin, Builtin.len_, hT, hv, run_underlying hd, goInt]
  · cases hk

theorem lenC_ok {o : Call} {T : TypeId} {n : Nat} {x : Operand} (h : oc.op = .call o) (hc : o.callee = .builtin .len) (ha : o.args.toList = [x]) (hT : o.argTypes[0]? = some T)
    (hd : (∃ e, P.underlying T = some (.array n e)) ∨ (∃ a e, P.underlying T = some (.pointer a) ∧ P.underlying a = some (.array n e))) : OpOk P base rec oc (.lenC n) := by
  intro t A ι W act K r hs ht hb hk
  simp only [opK] at hk
  refine ⟨_, A, hk, .pure hs (v' := .int .i64 n) ?_ (.flat _ rfl)⟩
  rw [exec_call h]
  rcases hd with ⟨e, hd⟩ | ⟨a, e, hd, hd2⟩
  · simp [resolve, hc, args_of ha, invoke, builtin, Builtin.len_, hT, run_underlying hd, goInt]
  · simp [resolve, hc, args_of ha, invoke, builtin, Builtin.len_, hT, run_underlying hd, run_underlying hd2, goInt]

theorem minmax_fold (mx : Bool) (k : IntKind) : ∀ (xs : List Value) (a : Int) (v : Value), mmG mx k a xs = some v → flatLeaf v = true ∧ xs.all flatLeaf = true ∧
    ∀ W : World, (xs.foldlM (if mx then Builtin.max2 else Builtin.min2) (.int k a)).run P W = .ok v W
  | [], a, v, h => by cases h; exact ⟨rfl, rfl, fun W => rfl⟩
  | x :: xs, a, v, h => by
    unfold mmG at h
    split at h
    · rename_i k' b
      split at h
      · rename_i hk
        subst hk
        obtain ⟨h1, h2, h3⟩ := minmax_fold mx k xs _ v h
        refine ⟨h1, by simp [flatLeaf, h2], fun W => ?_⟩
        have := h3 W
        cases mx <;> simp_all [Builtin.max2, Builtin.min2]
      · cases h
    · cases h

theorem minmax_ok {o : Call} {mx : Bool} (h : oc.op = .call o) (hc : o.callee = .builtin (if mx then .max else .min)) : OpOk P base rec oc (.minmax mx o.args.toList) := by
  intro t A ι W act K r hs ht hb hk
  have hx := ev_list ht o.args.toList
  simp only [opK] at hk
  obtain ⟨v, h1, h2⟩ := Option.bind_eq_some_iff.1 hk
  unfold mm at h1
  split at h1
  · rename_i k a rest he
    obtain ⟨f1, f2, f3⟩ := minmax_fold (P := P) mx k rest a v h1
    rw [he] at hx
    obtain ⟨v', rest', e1, e2, e3⟩ := hx.inv
    have hv := int_inv e2
    have hrest : rest' = rest := by
      refine List.ext_getElem? fun j => ?_
      by_cases hj : j < rest.length
      · obtain ⟨u', q1, q2⟩ := e3.get (List.getElem?_eq_getElem hj)
        rw [q1, List.getElem?_eq_getElem hj, flatLeaf_eq q2 (by rw [List.all_eq_true] at f2; exact f2 _ (List.getElem_mem hj))]
      · rw [List.getElem?_eq_none (by rw [← e3.1]; omega), List.getElem?_eq_none (by omega)]
    refine ⟨v, A, h2, .pure hs (v' := v) ?_ (.flat _ f1)⟩
    rw [exec_call h]
    have hm : (o.args.map act.eval).toList = .int k a :: rest := by simp [e1, hv, hrest]
    have := f3 W
    cases mx
    · simp only [Bool.false_eq_true, if_false] at hc this
      simp [resolve, hc, invoke, builtin, Builtin.min_, e1, hv, hrest, this]
    · simp only [if_true] at hc this
      simp [resolve, hc, invoke, builtin, Builtin.max_, e1, hv, hrest, this]
  · cases h1

end
end Go.Ax
