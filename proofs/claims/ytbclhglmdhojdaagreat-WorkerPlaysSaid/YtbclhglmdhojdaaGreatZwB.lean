/- Part 2 of the proof: AxB. -/
import Derived.Test.YtbclhglmdhojdaaGreatZwA
set_option linter.unusedVariables false
set_option linter.unusedSimpArgs false
set_option maxRecDepth 100000
namespace Go.Ax
open Go Go.RowKit
section
variable {P : Program} {base : Nat} {A : AMem} {ι : Iota} {W : World}
abbrev ev0 : List Value := [.int .i64 0, .int .i64 0, .int .i64 0, .bool false, .bool false]
abbrev eL : List Leaf := [.int .i64, .int .i64, .int .i64, .bool, .bool]
def Done (P : Program) (base : Nat) (oc : Oper) (act : Act) (A : AMem) (ι : Iota) (W : World) (v : Value) (A' : AMem) : Prop :=
  ∃ nx v' W' ι', (execOp act.eval oc).run P W = .ok nx W' ∧ (nx = .value v' ∨ (nx = .skip ∧ v' = undef)) ∧ Sim P base A' ι' W' ∧ Ev base A ι W A' ι' W' ∧ VRel A' ι' W' v v'
theorem Done.pure {oc : Oper} {act : Act} {v v' : Value} (hs : Sim P base A ι W) (h : (execOp act.eval oc).run P W = .ok (.value v') W) (hv : VRel A ι W v v') :
    Done P base oc act A ι W v A := ⟨.value v', v', W, ι, h, .inl rfl, hs, .refl _ _ _ _, hv⟩
theorem run_underlying {t : TypeId} {d : TypeDesc} (h : P.underlying t = some d) (W : World) : (underlying t).run P W = .ok d W := by
  simp [underlying, h]
theorem run_sizeOf {t : TypeId} {n : Nat} (h : sizeT P t = some n) (W : World) : (sizeOf t).run P W = .ok n W := by
  unfold sizeT at h
  cases hi : P.info? t with
  | none => simp [hi] at h
  | some i => simp [hi] at h; simp [sizeOf, typeInfo, hi, h]
theorem binK_ok {op : BinOp} {x y : Value} {K : Value → Res} {r : Value × AMem} (h : binK op x y K = some r) :
    ∃ v, K v = some r ∧ flatLeaf v = true ∧ flatLeaf x = true ∧ flatLeaf y = true ∧
      ∀ (xT : TypeId) (ox oy : Operand) (W : World), ((do eqGuard op xT ox oy x y; binOp op xT x y : Sem Value)).run P W = .ok v W := by
  cases x with
  | int k a =>
    cases y with
    | int k' b =>
      cases op <;> simp only [binK] at h <;> (try (split at h <;> rename_i hc <;> try (cases h; done))) <;> (try subst hc) <;> (try (split at h <;> rename_i hc2 <;> try (cases h; done))) <;>
        first
        | (cases h; done)
        | exact ⟨_, h, rfl, rfl, rfl, fun xT ox oy W => by simp_all [eqGuard, binOp, Op.intArith, Op.intDiv, Op.intBits, Op.intCmp, Op.shift] <;> (intros; omega)⟩
    | _ => simp [binK] at h
  | _ => simp [binK] at h
theorem run_eqBool {xT : TypeId} (hT : P.underlying xT = some .bool) (a b : Bool) (W : World) : (Op.equal xT (.bool a) (.bool b)).run P W = .ok (a == b) W := by
  change (Op.equalIn (9999 + 1) xT (.bool a) (.bool b)).run P W = _
  unfold Op.equalIn
  simp [run_underlying hT]
theorem run_eqNil {d : TypeDesc} {xT : TypeId} (hT : P.underlying xT = some d) {x : Operand} {kind : Nat} {v : Value} {b : Bool} (hk : nilKind d x = some kind) (hb : isNil kind v = some b) :
    ∃ c, x = .const c ∧ ∀ (op : BinOp) (ox oy : Operand) (W : World), (op = .eql ∨ op = .neq) →
      ((do eqGuard op xT ox oy v c; binOp op xT v c : Sem Value)).run P W = .ok (.bool (if op = .neq then !b else b)) W ∧
      ((do eqGuard op xT ox oy c v; binOp op xT c v : Sem Value)).run P W = .ok (.bool (if op = .neq then !b else b)) W := by
  have un : ∀ (x y : Value), Op.equal xT x y = Op.equalIn (9999 + 1) xT x y := fun _ _ => rfl
  unfold nilKind at hk
  split at hk <;> cases hk
  · cases v <;> simp [isNil] at hb
    rename_i e a
    refine ⟨_, rfl, fun op ox oy W ho => ?_⟩
    have h1 : (Op.equal xT (.pointer a) (.pointer none)).run P W = .ok b W := by
      rw [un]; unfold Op.equalIn; cases a <;> simp_all [run_underlying hT]
    have h2 : (Op.equal xT (.pointer none) (.pointer a)).run P W = .ok b W := by
      rw [un]; unfold Op.equalIn; cases a <;> simp_all [run_underlying hT]
    rcases ho with rfl | rfl <;> simp [binOp, eqGuard, h1, h2]
  · cases v <;> simp [isNil] at hb
    rename_i e n c a n' c'
    refine ⟨_, rfl, fun op ox oy W ho => ?_⟩
    have h1 : (Op.equal xT (.slice a n' c') (.slice none n c)).run P W = .ok b W := by
      rw [un]; unfold Op.equalIn; cases a <;> simp_all [run_underlying hT]
    have h2 : (Op.equal xT (.slice none n c) (.slice a n' c')).run P W = .ok b W := by
      rw [un]; unfold Op.equalIn; cases a <;> simp_all [run_underlying hT]
    rcases ho with rfl | rfl <;> simp [binOp, eqGuard, h1, h2]
  · cases v <;> simp [isNil] at hb
    · rename_i e1 e2 e3 f1 f2 f3
      refine ⟨_, rfl, fun op ox oy W ho => ?_⟩
      have h1 : (Op.equal xT (.func f1 f2 f3) .nilFunc).run P W = .ok b W := by
        subst hb; rw [un]; unfold Op.equalIn; rw [Sem.run_bind, run_underlying hT]; rfl
      have h2 : (Op.equal xT .nilFunc (.func f1 f2 f3)).run P W = .ok b W := by
        subst hb; rw [un]; unfold Op.equalIn; rw [Sem.run_bind, run_underlying hT]; rfl
      rcases ho with rfl | rfl <;> simp [binOp, eqGuard, h1, h2]
    · refine ⟨_, rfl, fun op ox oy W ho => ?_⟩
      have h1 : (Op.equal xT .nilFunc .nilFunc).run P W = .ok b W := by
        subst hb; rw [un]; unfold Op.equalIn; rw [Sem.run_bind, run_underlying hT]; rfl
      rcases ho with rfl | rfl <;> simp [binOp, eqGuard, h1]
  · cases v <;> simp [isNil] at hb
    rename_i e1 e2 a
    refine ⟨_, rfl, fun op ox oy W ho => ?_⟩
    have h1 : (Op.equal xT (.map a) (.map none)).run P W = .ok b W := by
      subst hb; rw [un]; unfold Op.equalIn; rw [Sem.run_bind, run_underlying hT]; cases a <;> rfl
    have h2 : (Op.equal xT (.map none) (.map a)).run P W = .ok b W := by
      subst hb; rw [un]; unfold Op.equalIn; rw [Sem.run_bind, run_underlying hT]; cases a <;> rfl
    rcases ho with rfl | rfl <;> simp [binOp, eqGuard, h1, h2]
theorem isNil_rel {kind : Nat} {v v' : Value} {b : Bool} (hb : isNil kind v = some b) (h : VRel A ι W v v') : isNil kind v' = some b := by
  unfold isNil at hb ⊢
  split at hb
  · split at hb
    · cases hb
      rename_i a
      cases a with
      | none => rw [nilptr_inv h]
      | some p => obtain ⟨q, rfl, _⟩ := ptr_inv h; rfl
    · cases hb
  · split at hb
    · cases hb
      rename_i a n c
      cases a with
      | none => rw [(nilslice_inv h).2.2]
      | some p => obtain ⟨q, c', rfl, _⟩ := slice_inv h; rfl
    · cases hb
  · split at hb
    · cases hb
      rw [← flatLeaf_eq h rfl]
    · cases hb
      cases h with
      | flat => rfl
      | func => rfl
      | yield => rfl
      | yieldDead => rfl
    · cases hb
  · split at hb
    · cases hb
      cases h with
      | flat => rfl
      | map => rfl
      | mapDead => rfl
    · cases hb
  · cases hb
end
def OpOk (P : Program) (base : Nat) (rec : Rec) (oc : Oper) (op : AOp) : Prop :=
  ∀ (t : List Value) (A : AMem) (ι : Iota) (W : World) (act : Act) (K : Value → AMem → Res) (r : Value × AMem),
    Sim P base A ι W → LRel A ι W t act.tmps.toList → base ≤ W.heap.size → opK rec op t A K = some r →
    ∃ v A', K v A' = some r ∧ Done P base oc act A ι W v A'
section
variable {P : Program} {base : Nat} {rec : Rec} {oc : Oper}
theorem mv_ok {x : Operand} (h : oc.op = .move x ∨ oc.op = .assign x) : OpOk P base rec oc (.mv x) := by
  intro t A ι W act K r hs ht hb hk
  refine ⟨_, A, hk, .pure hs (v' := act.eval x) ?_ (ev_rel ht x)⟩
  rcases h with h | h <;> simp [execOp, h]
theorem pick_ok {c a b : Operand} (h : oc.op = .pick c a b) : OpOk P base rec oc (.pick c a b) := by
  intro t A ι W act K r hs ht hb hk
  have hc := ev_rel ht c
  have ha := ev_rel ht a
  have hb := ev_rel ht b
  simp only [opK] at hk
  split at hk
  · rename_i q hq
    rw [hq] at hc
    have hc' := bool_inv hc
    split at hk
    · rename_i x y hx hy
      rw [hx] at ha; rw [hy] at hb
      have ha' := bool_inv ha
      have hb' := bool_inv hb
      refine ⟨_, A, hk, .pure hs (v' := .bool (bif q then x else y)) ?_ (.flat _ rfl)⟩
      cases q <;> simp [execOp, h, hc', ha', hb', asBool]
    · refine ⟨_, A, hk, .pure hs (v' := if q then act.eval a else act.eval b) ?_ ?_⟩
      · simp [execOp, h, hc', asBool]
      · cases q
        · exact hb
        · exact ha
  · cases hk
theorem bin_ok {o : BinOp} {xT yT : TypeId} {x y : Operand} (h : oc.op = .binOp o xT x y yT) : OpOk P base rec oc (.bin o x y) := by
  intro t A ι W act K r hs ht hb hk
  simp only [opK] at hk
  obtain ⟨v, h1, h2, h3, h4, h5⟩ := binK_ok hk
  have hx := flatLeaf_eq (ev_rel ht x) h3
  have hy := flatLeaf_eq (ev_rel ht y) h4
  refine ⟨v, A, h1, .pure hs (v' := v) ?_ (.flat _ h2)⟩
  have := h5 xT x y W
  rw [hx, hy] at this
  simp only [execOp, h]
  rw [Sem.run_bind, this]; rfl
theorem binB_ok {o : BinOp} {xT yT : TypeId} {x y : Operand} (hT : P.underlying xT = some .bool) {neg : Bool} (ho : (o = .eql ∧ neg = false) ∨ (o = .neq ∧ neg = true))
    (h : oc.op = .binOp o xT x y yT) : OpOk P base rec oc (.binB neg x y) := by
  intro t A ι W act K r hs ht hb hk
  have hx := ev_rel ht x
  have hy := ev_rel ht y
  simp only [opK] at hk
  split at hk
  · rename_i a b ha hb
    rw [ha] at hx; rw [hb] at hy
    have hx' := bool_inv hx
    have hy' := bool_inv hy
    refine ⟨_, A, hk, .pure hs (v' := .bool (if neg then !(a == b) else a == b)) ?_ (.flat _ rfl)⟩
    have := run_eqBool (P := P) hT a b W
    rcases ho with ⟨rfl, rfl⟩ | ⟨rfl, rfl⟩ <;> simp [execOp, h, hx', hy', eqGuard, binOp, this]
  · cases hk
theorem un_ok {o : UnOp} {xT : TypeId} {x : Operand} (h : oc.op = .unOp o xT x) : OpOk P base rec oc (.un o x) := by
  intro t A ι W act K r hs ht hb hk
  have hx := ev_rel ht x
  simp only [opK, unK] at hk
  split at hk
  · rename_i k n ha
    rw [ha] at hx
    have hx' := int_inv hx
    exact ⟨_, A, hk, .pure hs (by simp [execOp, h, hx', Op.unary, Op.intArith]) (.flat _ rfl)⟩
  · rename_i b ha
    rw [ha] at hx
    have hx' := bool_inv hx
    exact ⟨_, A, hk, .pure hs (by simp [execOp, h, hx', Op.unary]) (.flat _ rfl)⟩
  · cases hk
theorem conv_ok {src dst : TypeId} {k ks : IntKind} {x : Operand} (h : oc.op = .convert src dst x) (hsrc : P.underlying src = some (.int ks)) (hdst : P.underlying dst = some (.int k)) :
    OpOk P base rec oc (.conv k x) := by
  intro t A ι W act K r hs ht hb hk
  have hx := ev_rel ht x
  simp only [opK] at hk
  split at hk
  · rename_i k' n ha
    rw [ha] at hx
    have hx' := int_inv hx
    exact ⟨_, A, hk, .pure hs (by simp [execOp, h, hx', convert, run_underlying hsrc, run_underlying hdst, Conv.intToInt]) (.flat _ rfl)⟩
  · cases hk
theorem eqNil_ok {o : BinOp} {xT yT : TypeId} {x y : Operand} {d : TypeDesc} {kind : Nat} (hT : P.underlying xT = some d) (ho : o = .eql ∨ o = .neq)
    (h : oc.op = .binOp o xT x y yT) {z : Operand} (hz : (nilKind d y = some kind ∧ z = x) ∨ (nilKind d x = some kind ∧ z = y)) : OpOk P base rec oc (.eqNil kind (o = .neq) z) := by
  intro t A ι W act K r hs ht hb hk
  simp only [opK] at hk
  obtain ⟨b, h1, h2⟩ := bsi.1 hk
  have hb' := isNil_rel h1 (ev_rel ht z)
  have hv : ∀ q : Bool, (if decide (o = BinOp.neq) = true then !q else q) = if o = .neq then !q else q := fun q => by by_cases e : o = .neq <;> simp [e]
  refine ⟨_, A, h2, .pure hs (v' := .bool (if o = .neq then !b else b)) ?_ (by rw [hv]; exact .flat _ rfl)⟩
  rcases hz with ⟨hn, rfl⟩ | ⟨hn, rfl⟩
  · obtain ⟨c, rfl, hr⟩ := run_eqNil hT hn hb'
    have := (hr o z (.const c) W ho).1
    simp only [execOp, h]
    rw [Sem.run_bind]
    exact (congrArg (Result.andThen · _) this).trans rfl
  · obtain ⟨c, rfl, hr⟩ := run_eqNil hT hn hb'
    have := (hr o (.const c) z W ho).2
    simp only [execOp, h]
    rw [Sem.run_bind]
    exact (congrArg (Result.andThen · _) this).trans rfl
theorem nilCheck_ok {x : Operand} (h : oc.op = .nilCheck x) : OpOk P base rec oc (.nilCheck x) := by
  intro t A ι W act K r hs ht hb hk
  have hx := ev_rel ht x
  simp only [opK] at hk
  split at hk
  · rename_i p ha
    rw [ha] at hx
    obtain ⟨q, hq, _⟩ := ptr_inv hx
    exact ⟨_, A, hk, .pure hs (v' := act.eval x) (by simp [execOp, h, hq]) hx⟩
  · cases hk
  · rename_i fn a b ha
    rw [ha] at hx
    split at hk
    · obtain ⟨x', y', hq, _⟩ := func_inv hx
      exact ⟨_, A, hk, .pure hs (v' := act.eval x) (by simp [execOp, h, hq]) hx⟩
    · obtain ⟨_, _, l', hq, _⟩ := yield_inv hx
      exact ⟨_, A, hk, .pure hs (v' := act.eval x) (by simp [execOp, h, hq]) hx⟩
    · cases hk
  · cases hk
theorem makeFunc_ok {g : FuncId} {a b : Array Operand} (h : oc.op = .makeFunc (.func g) a b) : OpOk P base rec oc (.makeFunc (.func g) a.toList b.toList) := by
  intro t A ι W act K r hs ht hb hk
  have ha := ev_list ht a.toList
  have hb := ev_list ht b.toList
  simp only [opK] at hk
  refine ⟨_, A, hk, .pure hs (v' := .func (.func g) (a.map act.eval) (b.map act.eval)) (by simp [execOp, h, Instr.makeFunc]) ?_⟩
  refine .func g _ _ _ _ (by simp) (by simp) (fun j v v' e e' => ha.2 j v v' (by simpa using e) (by simpa using e')) (fun j v v' e e' => hb.2 j v v' (by simpa using e) (by simpa using e'))
theorem extract_ok {x : Operand} {i : Nat} (h : oc.op = .extract x i) : OpOk P base rec oc (.extract x i) := by
  intro t A ι W act K r hs ht hb hk
  have hx := ev_rel ht x
  simp only [opK] at hk
  split at hk
  · rename_i vs ha
    rw [ha] at hx
    obtain ⟨v, h1, h2⟩ := bsi.1 hk
    obtain ⟨x', hq, hl⟩ := tuple_inv hx
    obtain ⟨v', e1, e2⟩ := hl.get h1
    exact ⟨v, A, h2, .pure hs (v' := v') (by simp [execOp, h, hq, Instr.extract]; simp at e1; simp [e1]) e2⟩
  · cases hk
theorem slice_any {p : Option Addr} {n c : Nat} {A : AMem} {ι : Iota} {W : World} {v' : Value} (h : VRel A ι W (.slice p n c) v') : ∃ q c', v' = .slice q n c' := by
  cases p with
  | none => obtain ⟨e1, e2, e3⟩ := nilslice_inv h; subst e1; exact ⟨none, 0, e3⟩
  | some p => obtain ⟨q, c', e, _⟩ := slice_inv h; exact ⟨some q, c', e⟩
theorem exec_call {act : Act} {o : Call} (h : oc.op = .call o) : execOp act.eval oc = (do let d ← resolve act.eval o oc.type; invoke d.target d.args) := by
  simp [execOp, h]
theorem args_of {o : Call} {xs : List Operand} (ha : o.args.toList = xs) : o.args = xs.toArray := by
  rw [← Array.toArray_toList (xs := o.args), ha]
theorem len_ok {o : Call} {T e : TypeId} {x : Operand} (h : oc.op = .call o) (hc : o.callee = .builtin .len) (ha : o.args.toList = [x]) (hT : o.argTypes[0]? = some T)
    (hd : P.underlying T = some (.slice e)) : OpOk P base rec oc (.len x) := by
  intro t A ι W act K r hs ht hb hk
  have hx := ev_rel ht x
  simp only [opK] at hk
  obtain ⟨n, h1, h2⟩ := bsi.1 hk
  unfold lenV at h1
  split at h1
  · rename_i p n' c he
    cases h1
    rw [he] at hx
    obtain ⟨q, c', hv⟩ := slice_any hx
    refine ⟨_, A, h2, .pure hs (v' := .int .i64 n) ?_ (.flat _ rfl)⟩
    rw [exec_call h]
    simp [resolve, hc, args_of ha, invoke, builtin, Builtin.len_, hT, hv, run_underlying hd, goInt]
  · cases h1
theorem lenS_ok {o : Call} {T : TypeId} {x : Operand} (h : oc.op = .call o) (hc : o.callee = .builtin .len) (ha : o.args.toList = [x]) (hT : o.argTypes[0]? = some T)
    (hd : P.underlying T = some .string) : OpOk P base rec oc (.lenS x) := by
  intro t A ι W act K r hs ht hb hk
  have hx := ev_rel ht x
  simp only [opK] at hk
  split at hk
  · rename_i s he
    rw [he] at hx
    have hv := string_inv hx
    refine ⟨_, A, hk, .pure hs (v' := .int .i64 s.size) ?_ (.flat _ rfl)⟩
    rw [exec_call h]
    simp [resolve, hc, args_of ha, invoke, builtin, Builtin.len_, hT, hv, run_underlying hd, goInt]
  · cases hk
theorem lenC_ok {o : Call} {T : TypeId} {n : Nat} {x : Operand} (h : oc.op = .call o) (hc : o.callee = .builtin .len) (ha : o.args.toList = [x]) (hT : o.argTypes[0]? = some T)
    (hd : (∃ e, P.underlying T = some (.array n e)) ∨ (∃ a e, P.underlying T = some (.pointer a) ∧ P.underlying a = some (.array n e))) : OpOk P base rec oc (.lenC n) := by
  intro t A ι W act K r hs ht hb hk
  simp only [opK] at hk
  refine ⟨_, A, hk, .pure hs (v' := .int .i64 n) ?_ (.flat _ rfl)⟩
  rw [exec_call h]
  rcases hd with ⟨e, hd⟩ | ⟨a, e, hd, hd2⟩
  · simp [resolve, hc, args_of ha, invoke, builtin, Builtin.len_, hT, run_underlying hd, goInt]
  · simp [resolve, hc, args_of ha, invoke, builtin, Builtin.len_, hT, run_underlying hd, run_underlying hd2, goInt]
theorem minmax_fold (mx : Bool) (k : IntKind) : ∀ (xs : List Value) (a : Int) (v : Value), mmG mx k a xs = some v → flatLeaf v = true ∧ xs.all flatLeaf = true ∧
    ∀ W : World, (xs.foldlM (if mx then Builtin.max2 else Builtin.min2) (.int k a)).run P W = .ok v W
  | [], a, v, h => by cases h; exact ⟨rfl, rfl, fun W => rfl⟩
  | x :: xs, a, v, h => by
    unfold mmG at h
    split at h
    · rename_i k' b
      split at h
      · rename_i hk
        subst hk
        obtain ⟨h1, h2, h3⟩ := minmax_fold mx k xs _ v h
        refine ⟨h1, by simp [flatLeaf, h2], fun W => ?_⟩
        have := h3 W
        cases mx <;> simp_all [Builtin.max2, Builtin.min2]
      · cases h
    · cases h
theorem minmax_ok {o : Call} {mx : Bool} (h : oc.op = .call o) (hc : o.callee = .builtin (if mx then .max else .min)) : OpOk P base rec oc (.minmax mx o.args.toList) := by
  intro t A ι W act K r hs ht hb hk
  have hx := ev_list ht o.args.toList
  simp only [opK] at hk
  obtain ⟨v, h1, h2⟩ := bsi.1 hk
  unfold mm at h1
  split at h1
  · rename_i k a rest he
    obtain ⟨f1, f2, f3⟩ := minmax_fold (P := P) mx k rest a v h1
    rw [he] at hx
    obtain ⟨v', rest', e1, e2, e3⟩ := hx.inv
    have hv := int_inv e2
    have hrest : rest' = rest := by
      refine List.ext_getElem? fun j => ?_
      by_cases hj : j < rest.length
      · obtain ⟨u', q1, q2⟩ := e3.get (gee hj)
        rw [q1, gee hj, flatLeaf_eq q2 (by rw [List.all_eq_true] at f2; exact f2 _ (List.getElem_mem hj))]
      · rw [List.getElem?_eq_none (by rw [← e3.1]; omega), List.getElem?_eq_none (by omega)]
    refine ⟨v, A, h2, .pure hs (v' := v) ?_ (.flat _ f1)⟩
    rw [exec_call h]
    have hm : (o.args.map act.eval).toList = .int k a :: rest := by simp [e1, hv, hrest]
    have := f3 W
    cases mx
    · simp only [Bool.false_eq_true, if_false] at hc this
      simp [resolve, hc, invoke, builtin, Builtin.min_, e1, hv, hrest, this]
    · simp only [if_true] at hc this
      simp [resolve, hc, invoke, builtin, Builtin.max_, e1, hv, hrest, this]
  · cases h1
end
section
variable {P : Program} {base : Nat} {rec : Rec} {oc : Oper}
def NewOk (P : Program) (oc : Oper) (act : Act) (A : AMem) (ι : Iota) (W : World) (mk : Nat → Value) (cs : List Value) (m : Meta) : Prop :=
  cs.all leafV = true ∧ ∃ (cs' : Array Value) (ty : TypeId) (mk' : Nat → Value), (execOp act.eval oc).run P W = .ok (.value (mk' W.heap.size)) (W.alloc (.cells cs' ty)) ∧ cs.length ≤ cs'.size ∧
    (∀ (j : Nat) (v : Value), cs[j]? = some v → ∃ v', cs'[j]? = some v' ∧ VRel A ι W v v') ∧
    ∀ (A' : AMem) (ι' : Iota) (a : Nat), ι' a = some (W.heap.size, 0) → VRel A' ι' (W.alloc (.cells cs' ty)) (mk a) (mk' W.heap.size)
def NewsOk (P : Program) (oc : Oper) (op : AOp) : Prop :=
  ∀ (t : List Value) (A : AMem) (ι : Iota) (W : World) (act : Act) (K : (Nat → Value) → AObj → Res) (r : Value × AMem),
    LRel A ι W t act.tmps.toList → newK op t K = some r → ∃ mk cs m, K mk (.cells cs m) = some r ∧ m.ro = false ∧ NewOk P oc act A ι W mk cs m
theorem NewOk.done {act : Act} {A : AMem} {ι : Iota} {W : World} {mk : Nat → Value} {cs : List Value} {m : Meta} (h : NewOk P oc act A ι W mk cs m)
    (hs : Sim P base A ι W) (hb : base ≤ W.heap.size) : Done P base oc act A ι W (mk A.length) (A ++ [.cells cs m]) := by
  obtain ⟨hlf, cs', ty, mk', h1, h2, h3, h4⟩ := h
  have hx : (A ++ [AObj.cells cs m])[A.length]? = some (.cells cs m) := by simp
  obtain ⟨k1, k2⟩ := hs.newCells hb (A' := A ++ [.cells cs m]) A.length hs.fresh (by simp) (by simp) (fun a ha => by
      by_cases hlt : a < A.length
      · rw [List.getElem?_append_left hlt]
      · rw [List.getElem?_eq_none (by simp; omega), List.getElem?_eq_none (by omega)]) cs m hx hlf cs' ty h2 h3
  exact ⟨_, _, _, _, h1, .inl rfl, k1, k2, h4 _ _ _ (upd_same _ _ _)⟩
theorem new_ok {op : AOp} (h : NewsOk P oc op) (hop : ∀ (t : List Value) (A : AMem) (K : Value → AMem → Res), opK rec op t A K = newK op t fun mk blk => K (mk A.length) (A ++ [blk])) :
    OpOk P base rec oc op := by
  intro t A ι W act K r hs ht hb hk
  rw [hop] at hk
  obtain ⟨mk, cs, m, h1, h2, h3⟩ := h t A ι W act _ r ht hk
  exact ⟨_, _, h1, h3.done hs hb⟩
theorem zeroL_inv {t : TypeId} {z : List Value} (h : zeroL P t = some z) : ∃ i zv, P.info? t = some i ∧ i.zero = some zv ∧ cellsL zv = z ∧ z.length = i.size ∧ z.all flatLeaf = true := by
  unfold zeroL at h
  obtain ⟨i, h1, h2⟩ := bsi.1 h
  obtain ⟨zv, h3, h4⟩ := bsi.1 h2
  split at h4
  · rename_i hc
    cases h4
    exact ⟨i, zv, h1, h3, rfl, hc.1, hc.2⟩
  · cases h4
theorem run_zero {t : TypeId} {i : TypeInfo} {z : Value} (hi : P.info? t = some i) (hz : i.zero = some z) (W : World) : (zeroValue t).run P W = .ok z W := by
  simp [zeroValue, typeInfo, hi, hz]
theorem flat_all {A : AMem} {ι : Iota} {W : World} {z : List Value} (h : z.all flatLeaf = true) {j : Nat} {v : Value} (hj : z[j]? = some v) : VRel A ι W v v := by
  rw [List.all_eq_true] at h
  exact .flat _ (h v (List.mem_iff_getElem?.2 ⟨j, hj⟩))
theorem flat_leaf {v : Value} (h : flatLeaf v = true) : leafV v = true := by
  cases v <;> simp_all [flatLeaf, leafV]
theorem flats_leaf {z : List Value} (h : z.all flatLeaf = true) : z.all leafV = true := by
  rw [List.all_eq_true] at h ⊢
  exact fun v hv => flat_leaf (h v hv)
theorem replL_leaf (n : Nat) {z : List Value} (h : z.all leafV = true) : (replL n z).all leafV = true := by
  rw [List.all_eq_true] at h ⊢
  intro v hv
  refine h v ?_
  unfold replL at hv
  split at hv
  · rw [List.eq_of_mem_replicate hv]; simp
  · obtain ⟨l, hl, hvl⟩ := List.mem_flatten.1 hv
    rw [List.eq_of_mem_replicate hl] at hvl
    exact hvl
theorem fillL_leaf : ∀ (qs : List (Nat × Nat × Value)) (c o : List Value), fillL c qs = some o → c.all leafV = true → o.all leafV = true := by
  intro qs
  induction qs with
  | nil => intro c o e h; cases e; exact h
  | cons q qs ih =>
    intro c o e h
    simp only [fillL] at e
    split at e
    · rename_i hc
      exact ih _ _ e (wrL_leaf _ _ _ h hc.2.2)
    · cases e
theorem alloc_new {e : TypeId} {z : List Value} (h : oc.op = .alloc e) (hz : zeroL P e = some z) : NewsOk P oc (.alloc z) := by
  intro t A ι W act K r ht hk
  obtain ⟨i, zv, h1, h2, h3, h4, h5⟩ := zeroL_inv hz
  refine ⟨_, _, _, hk, rfl, flats_leaf h5, zv.cells, e, fun a => .pointer (some ⟨a, 0, none⟩), ?_, ?_, fun j v hv => ?_, fun A' ι' a hi => ?_⟩
  · simp [execOp, h, Instr.alloc, run_zero h1 h2, newVar, newRow]
  · rw [← h3]; exact Nat.le_of_eq (by rw [← cells_toList]; simp)
  · refine ⟨v, ?_, flat_all h5 hv⟩
    rw [← h3, ← cells_toList] at hv; simpa using hv
  · exact .ptr ⟨a, 0, none⟩ _ 0 hi
theorem box_new {e : TypeId} {x : Operand} (h : oc.op = .box e x) : NewsOk P oc (.box x) := by
  intro t A ι W act K r ht hk
  have hx := ev_rel ht x
  simp only [newK] at hk
  split at hk
  · rename_i hl
    have hr := cellsL_rel hx hl
    refine ⟨_, _, _, hk, rfl, hl, (act.eval x).cells, e, fun a => .pointer (some ⟨a, 0, none⟩), ?_, ?_, fun j v hv => ?_, fun A' ι' a hi => ?_⟩
    · simp [execOp, h, Instr.box, newVar, newRow]
    · rw [hr.1]; exact Nat.le_of_eq (by rw [← cells_toList]; simp)
    · obtain ⟨v', e1, e2⟩ := hr.get hv
      refine ⟨v', ?_, e2⟩
      rw [← cells_toList] at e1; simpa using e1
    · exact .ptr ⟨a, 0, none⟩ _ 0 hi
  · cases hk
theorem replL_length (n : Nat) (z : List Value) : (replL n z).length = n * z.length := by
  unfold replL
  split
  · simp
  · simp
theorem replicate_flatten_get (n : Nat) (z : List Value) (j : Nat) (hj : j < n * z.length) : (List.replicate n z).flatten[j]? = z[j % z.length]? := by
  induction n generalizing j with
  | zero => simp at hj
  | succ n ih =>
    rw [List.replicate_succ, List.flatten_cons]
    by_cases h : j < z.length
    · rw [List.getElem?_append_left h, Nat.mod_eq_of_lt h]
    · rw [List.getElem?_append_right (by omega), ih _ (by rw [Nat.add_mul, Nat.one_mul] at hj; omega)]
      congr 1
      exact (Nat.mod_eq_sub_mod (by omega)).symm
theorem replL_get (n : Nat) (z : List Value) (j : Nat) (hj : j < n * z.length) : (replL n z)[j]? = z[j % z.length]? := by
  unfold replL
  split
  · rename_i v
    simp at hj
    simp [List.getElem?_replicate, hj, Nat.mod_one]
  · exact replicate_flatten_get n z j hj
theorem madeCells_get (z : Array Value) (n : Nat) (j : Nat) (hj : j < n) (hz : 0 < z.size) : (madeCells z n)[j]? = z[j % z.size]? := by
  have hlt : j % z.size < z.size := Nat.mod_lt _ hz
  simp [madeCells, hj, hlt, getElem!_pos]
theorem makeSlice_new {T e : TypeId} {l c : Operand} {z : List Value} {i : TypeInfo} (h : oc.op = .makeSlice T l c) (hT : P.underlying T = some (.slice e)) (hz : zeroL P e = some z)
    (hi : P.info? e = some i) (hpos : 0 < i.size) : NewsOk P oc (.makeSlice i.size i.bytes z l c) := by
  intro t A ι W act K r ht hk
  have hl := ev_rel ht l
  have hc := ev_rel ht c
  obtain ⟨i', zv, h1, h2, h3, h4, h5⟩ := zeroL_inv hz
  rw [hi] at h1; cases h1
  simp only [newK] at hk
  split at hk
  · rename_i kl lv kc cv e1 e2
    rw [e1] at hl; rw [e2] at hc
    have hl' := int_inv hl
    have hc' := int_inv hc
    split at hk
    · rename_i hcond
      obtain ⟨c1, c2, c3, c4⟩ := hcond
      have hzs : zv.cells.size = i.size := by rw [← h4, ← h3, ← cells_toList]; simp
      have hrun := run_make (P := P) W T e i zv hT hi h2 kl kc lv cv c1 c2 (by rw [Int.mul_comm]; omega) (by omega)
      refine ⟨_, _, _, hk, rfl, replL_leaf _ (flats_leaf h5), madeCells zv.cells (cv.toNat * i.size), e, fun a => .slice (some ⟨a, 0, none⟩) lv.toNat cv.toNat, ?_, ?_, fun j v hv => ?_, fun A' ι' a hia => ?_⟩
      · simp [execOp, h, hl', hc', hrun]
      · rw [replL_length, size_madeCells, h4]
        exact Nat.mul_le_mul_right _ (by omega)
      · have hj : j < lv.toNat * i.size := by
          have := (ges.1 hv).1
          rwa [replL_length, h4] at this
        rw [replL_get _ _ _ (by rw [h4]; exact hj)] at hv
        refine ⟨v, ?_, flat_all h5 hv⟩
        rw [madeCells_get _ _ _ (Nat.lt_of_lt_of_le hj (Nat.mul_le_mul_right _ (by omega))) (by omega), hzs, ← h4]
        rw [← h3, ← cells_toList] at hv ⊢
        simpa using hv
      · refine .slice ⟨a, 0, none⟩ _ _ _ _ 0 hia rfl (by omega) fun _ => ?_
        unfold szW
        rw [heap_alloc_self]
        simp [size_madeCells]
    · cases hk
  · cases hk
theorem foldl_fill (off : Nat) : ∀ (l : List Value) (k : Nat) (cs : Array Value),
    ((l.zipIdx k).foldl (fun cs (p : Value × Nat) => cs.setIfInBounds (off + p.2) p.1) cs).toList = wrL cs.toList (off + k) l
  | [], k, cs => rfl
  | v :: l, k, cs => by
    simp only [List.zipIdx_cons, List.foldl_cons, wrL]
    rw [foldl_fill off l (k + 1)]
    simp [Nat.add_assoc]
theorem fill_ok {A : AMem} {ι : Iota} {W : World} (place : Nat → Option (Nat × Nat)) : ∀ (ps : List (Nat × Value)) (qs : List (Nat × Nat × Value)) (cells : List Value) (cells' : Array Value) (out : List Value),
    LRel A ι W cells cells'.toList → qs.length = ps.length →
    (∀ (j : Nat) (p : Nat × Value) (q : Nat × Nat × Value), ps[j]? = some p → qs[j]? = some q → place p.1 = some (q.1, q.2.1) ∧ VRel A ι W q.2.2 p.2) →
    fillL cells qs = some out →
    ∃ out', Instr.fill place cells' ps = some out' ∧ LRel A ι W out out'.toList
  | [], [], cells, cells', out, hr, _, _, h => by
    cases h
    exact ⟨cells', rfl, hr⟩
  | p :: ps, q :: qs, cells, cells', out, hr, hlen, hpq, h => by
    obtain ⟨i, v⟩ := p
    obtain ⟨off, n, u⟩ := q
    obtain ⟨hp, hv⟩ := hpq 0 _ _ rfl rfl
    simp only at hp hv
    simp only [fillL] at h
    split at h
    · rename_i hc
      have hl := hc.2.2
      have hcr := cellsL_rel hv hl
      have hvs : v.cells.size = n := by rw [← hc.1, hcr.1, ← cells_toList]; simp
      have hcl : cells.length = cells'.size := by have := hr.1; simpa using this
      unfold Instr.fill
      rw [hp]
      simp only
      rw [if_neg (by simp [hvs]; omega)]
      have hstep : LRel A ι W (wrL cells off (cellsL u)) ((v.cells.zipIdx.foldl (fun cs (c, j) => cs.setIfInBounds (off + j) c) cells').toList) := by
        have e := foldl_fill off v.cells.toList 0 cells'
        rw [← Array.foldl_toList, Array.toList_zipIdx]
        rw [show (v.cells.toList.zipIdx.foldl (fun cs (x : Value × Nat) => match x with | (c, j) => cs.setIfInBounds (off + j) c) cells') = (v.cells.toList.zipIdx.foldl (fun cs (p : Value × Nat) => cs.setIfInBounds (off + p.2) p.1) cells') from rfl]
        rw [e, cells_toList, Nat.add_zero]
        refine ⟨by rw [wrL_length, wrL_length]; exact hr.1, fun j x x' e1 e2 => ?_⟩
        rw [wrL_get _ _ _ (by rw [hc.1]; exact hc.2.1)] at e1
        rw [wrL_get _ _ _ (by rw [← hcr.1, hc.1, Array.length_toList, ← hcl]; exact hc.2.1), ← hcr.1] at e2
        split at e1
        · rename_i hin; rw [if_pos hin] at e2; exact hcr.2 _ x x' e1 e2
        · rename_i hin; rw [if_neg hin] at e2; exact hr.2 _ x x' e1 e2
      exact fill_ok place ps qs _ _ out hstep (by simpa using hlen) (fun j p' q' e1 e2 => hpq (j + 1) p' q' e1 e2) h
    · cases h
  | [], _ :: _, _, _, _, _, hlen, _, _ => by simp at hlen
  | _ :: _, [], _, _, _, _, hlen, _, _ => by simp at hlen
theorem parts_ok {A : AMem} {ι : Iota} {W : World} {t : List Value} {act : Act} (ht : LRel A ι W t act.tmps.toList) (place : Nat → Option (Nat × Nat)) :
    ∀ (ps : List (Nat × Operand)) (qs : List (Nat × Nat × Operand)), partsOf place ps = some qs →
      (qs.map fun p => (p.1, p.2.1, ev t p.2.2)).length = (ps.map fun (i, x) => (i, act.eval x)).length ∧
      ∀ (j : Nat) (p : Nat × Value) (q : Nat × Nat × Value), (ps.map fun (i, x) => (i, act.eval x))[j]? = some p → (qs.map fun p => (p.1, p.2.1, ev t p.2.2))[j]? = some q →
        place p.1 = some (q.1, q.2.1) ∧ VRel A ι W q.2.2 p.2
  | [], qs, h => by
    simp [partsOf] at h; subst h
    exact ⟨rfl, fun j p q e => by simp at e⟩
  | (i, x) :: ps, qs, h => by
    simp only [partsOf, List.mapM_cons] at h
    obtain ⟨q, h1, h2⟩ := bsi.1 h
    obtain ⟨qs', h3, h4⟩ := bsi.1 h2
    cases h4
    obtain ⟨w, h5, h6⟩ := msi.1 h1
    subst h6
    obtain ⟨k1, k2⟩ := parts_ok ht place ps qs' h3
    refine ⟨by simpa using k1, fun j p q e1 e2 => ?_⟩
    cases j with
    | zero => simp at e1 e2; subst e1; subst e2; exact ⟨h5, ev_rel ht x⟩
    | succ j => simp at e1 e2; exact k2 j p q (by simpa using e1) (by simpa using e2)
theorem run_places {fs : List Field} (h : fs.all (fun f => (sizeT P f.type).isSome) = true) (W : World) :
    ∃ l : List (Nat × Nat), (fs.mapM fun f => (do pure (f.offset, ← sizeOf f.type) : Sem (Nat × Nat))).run P W = .ok l W ∧ ∀ i : Nat, l[i]? = (fs[i]?).bind fun f => (sizeT P f.type).map fun n => (f.offset, n) := by
  induction fs with
  | nil => exact ⟨[], by simp, fun i => by simp⟩
  | cons f fs ih =>
    simp only [List.all_cons, Bool.and_eq_true] at h
    obtain ⟨n, hn⟩ := Option.isSome_iff_exists.1 h.1
    obtain ⟨l, h1, h2⟩ := ih h.2
    refine ⟨(f.offset, n) :: l, ?_, fun i => ?_⟩
    · have := run_sizeOf hn W
      simp only [List.mapM_cons, Sem.run_bind, this, Result.andThen_ok, Sem.run_pure, Sem.run_map, h1] at h1 ⊢
    · cases i with
      | zero => simp [hn]
      | succ i => simpa using h2 i
theorem build_struct_ok {T : TypeId} {ps : Array (Nat × Operand)} {fs : Array Field} {z : List Value} {qs : List (Nat × Nat × Operand)} (h : oc.op = .build T ps) (hT : P.underlying T = some (.struct fs))
    (hall : fs.toList.all (fun f => (sizeT P f.type).isSome) = true) (hz : zeroL P T = some z)
    (hq : partsOf (fun i => fs[i]?.bind fun f => (sizeT P f.type).map fun n => (f.offset, n)) ps.toList = some qs) : OpOk P base rec oc (.build z qs) := by
  intro t A ι W act K r hs ht hb hk
  obtain ⟨i, zv, h1, h2, h3, h4, h5⟩ := zeroL_inv hz
  simp only [opK] at hk
  obtain ⟨cs, k1, k2⟩ := bsi.1 hk
  obtain ⟨p1, p2⟩ := parts_ok ht _ ps.toList qs hq
  have hzr : LRel A ι W z zv.cells.toList := by
    rw [cells_toList, h3]
    exact ⟨rfl, fun j v v' e e' => by rw [e] at e'; cases e'; exact flat_all h5 e⟩
  obtain ⟨out', f1, f2⟩ := fill_ok (fun i => fs[i]?.bind fun f => (sizeT P f.type).map fun n => (f.offset, n)) _ _ z zv.cells cs hzr p1 p2 k1
  obtain ⟨l, g1, g2⟩ := run_places (P := P) hall W
  refine ⟨_, A, k2, .pure hs (v' := .agg out') ?_ (agg_of_LRel f2)⟩
  have hpl : (fun i : Nat => (fs[i]?).bind fun (f : Field) => (sizeT P f.type).map fun n => (f.offset, n)) = (fun i => l.toArray[i]?) := by
    funext i
    have e : l.toArray[i]? = l[i]? := by simp
    rw [e, g2]; simp
  rw [hpl] at f1
  have hm : (fs.mapM fun f => (do pure (f.offset, ← sizeOf f.type) : Sem (Nat × Nat))).run P W = .ok l.toArray W := by
    rw [← Array.toArray_toList (xs := fs), List.mapM_toArray, Sem.run_map, g1]
    rfl
  simp only [execOp, h, Instr.build]
  rw [Sem.run_bind, Sem.run_bind, run_zero h1 h2]
  simp only [Result.andThen_ok, Sem.run_bind, run_underlying hT, hm]
  rw [show (ps.map fun x => (x.fst, act.eval x.snd)).toList = ps.toList.map fun (i, x) => (i, act.eval x) by simp, f1]
  rfl
theorem build_array_ok {T e : TypeId} {ps : Array (Nat × Operand)} {len n : Nat} {z : List Value} {qs : List (Nat × Nat × Operand)} (h : oc.op = .build T ps) (hT : P.underlying T = some (.array len e))
    (hn : sizeT P e = some n) (hz : zeroL P T = some z) (hq : partsOf (fun i => some (i * n, n)) ps.toList = some qs) : OpOk P base rec oc (.build z qs) := by
  intro t A ι W act K r hs ht hb hk
  obtain ⟨i, zv, h1, h2, h3, h4, h5⟩ := zeroL_inv hz
  simp only [opK] at hk
  obtain ⟨cs, k1, k2⟩ := bsi.1 hk
  obtain ⟨p1, p2⟩ := parts_ok ht _ ps.toList qs hq
  have hzr : LRel A ι W z zv.cells.toList := by
    rw [cells_toList, h3]
    exact ⟨rfl, fun j v v' e e' => by rw [e] at e'; cases e'; exact flat_all h5 e⟩
  obtain ⟨out', f1, f2⟩ := fill_ok (fun i => some (i * n, n)) _ _ z zv.cells cs hzr p1 p2 k1
  refine ⟨_, A, k2, .pure hs (v' := .agg out') ?_ (agg_of_LRel f2)⟩
  simp only [execOp, h, Instr.build]
  rw [Sem.run_bind, Sem.run_bind, run_zero h1 h2]
  simp only [Result.andThen_ok, Sem.run_bind, run_underlying hT, run_sizeOf hn]
  rw [show (ps.map fun x => (x.fst, act.eval x.snd)).toList = ps.toList.map fun (i, x) => (i, act.eval x) by simp, f1]
  rfl
theorem buildSlice_new {T e : TypeId} {len n : Nat} {ps : Array (Nat × Operand)} {z : List Value} {qs : List (Nat × Nat × Operand)} (h : oc.op = .buildSlice T len ps) (hT : P.underlying T = some (.slice e))
    (hn : sizeT P e = some n) (hz : zeroL P e = some z) (hle : len * n ≤ 16777216) (hpos : 0 < n) (hq : partsOf (fun i => some (i * n, n)) ps.toList = some qs) :
    NewsOk P oc (.buildSlice n len (replL len z) qs) := by
  intro t A ι W act K r ht hk
  obtain ⟨i, zv, h1, h2, h3, h4, h5⟩ := zeroL_inv hz
  have hin : i.size = n := by unfold sizeT at hn; rw [h1] at hn; simpa using hn
  simp only [newK] at hk
  obtain ⟨cs, k1, k2⟩ := bsi.1 hk
  obtain ⟨p1, p2⟩ := parts_ok ht _ ps.toList qs hq
  have hzs : zv.cells.size = n := by rw [← hin, ← h4, ← h3, ← cells_toList]; simp
  have hzr : LRel A ι W (replL len z) (madeCells zv.cells (len * n)).toList := by
    refine ⟨by rw [replL_length, h4, hin, Array.length_toList (xs := madeCells zv.cells (len * n)), size_madeCells], fun j v v' e e' => ?_⟩
    have hj : j < len * n := by have := (ges.1 e).1; rwa [replL_length, h4, hin] at this
    rw [replL_get _ _ _ (by rw [h4, hin]; exact hj)] at e
    rw [Array.getElem?_toList, madeCells_get _ _ _ hj (by omega), hzs, ← hin, ← h4] at e'
    have e2 : z[j % z.length]? = some v' := by rw [← h3, ← cells_toList] at e' ⊢; simpa using e'
    rw [e] at e2; cases e2
    exact flat_all h5 e
  obtain ⟨out', f1, f2⟩ := fill_ok (fun i => some (i * n, n)) _ _ (replL len z) (madeCells zv.cells (len * n)) cs hzr p1 p2 k1
  refine ⟨_, _, _, k2, rfl, fillL_leaf _ _ _ k1 (replL_leaf _ (flats_leaf h5)), out', e, fun a => .slice (some ⟨a, 0, none⟩) len len, ?_, ?_, fun j v hv => ?_, fun A' ι' a hia => ?_⟩
  · have hlim : ¬ (len * n > 2 ^ 24) := by omega
    simp only [execOp, h, Instr.buildSlice]
    rw [Sem.run_bind, Sem.run_bind, run_underlying hT]
    simp only [Result.andThen_ok, Sem.run_bind, run_sizeOf hn, if_neg hlim]
    by_cases h0 : len * n = 0
    · simp only [h0, if_true, pure_bind]
      have hmk : madeCells zv.cells (len * n) = (Array.range 0).map (fun x => (#[] : Array Value)[x % (#[] : Array Value).size]!) := by simp [madeCells, h0]
      rw [hmk] at f1
      rw [show (ps.map fun x => (x.fst, act.eval x.snd)).toList = ps.toList.map fun (i, x) => (i, act.eval x) by simp, f1]
      simp [newRow]
    · simp only [if_neg h0, Sem.run_bind, run_zero h1 h2, Result.andThen_ok, Sem.run_pure]
      have hmk : madeCells zv.cells (len * n) = (Array.range (len * n)).map (fun x => zv.cells[x % zv.cells.size]!) := rfl
      rw [hmk] at f1
      rw [show (ps.map fun x => (x.fst, act.eval x.snd)).toList = ps.toList.map fun (i, x) => (i, act.eval x) by simp, f1]
      simp [newRow]
  · rw [f2.1]; exact Nat.le_of_eq (by simp)
  · obtain ⟨v', q1, q2⟩ := f2.get hv
    exact ⟨v', by simpa using q1, q2⟩
  · refine .slice ⟨a, 0, none⟩ _ _ _ _ 0 hia rfl (Nat.le_refl _) fun _ => ?_
    unfold szW
    rw [heap_alloc_self]
    have hl : cs.length = len * n := by
      have := f2.1
      have key : ∀ (qs : List (Nat × Nat × Value)) (c o : List Value), fillL c qs = some o → o.length = c.length := by
        intro qs
        induction qs with
        | nil => intro c o e; cases e; rfl
        | cons q qs ih =>
          intro c o e
          simp only [fillL] at e
          split at e
          · rw [ih _ _ e, wrL_length]
          · cases e
      rw [key _ _ _ k1, replL_length, h4, hin]
    have := f2.1
    simp at this
    simp
    omega
end
section
variable {P : Program} {base : Nat} {rec : Rec} {oc : Oper}
theorem leaves_und {d : Nat} {t : TypeId} {l : List Leaf} (h : leaves P d t = some l) : ∃ D, P.underlying t = some D := by
  cases d with
  | zero => simp [leaves] at h
  | succ d =>
    cases hu : P.underlying t with
    | none => simp [leaves, hu] at h
    | some D => exact ⟨D, rfl⟩
theorem ty1_inv {t : TypeId} {x : Bool × List Leaf} (h : ty1 P t = some x) : x.1 = isAggT P t ∧ sizeT P t = some x.2.length ∧ ∃ D, P.underlying t = some D := by
  unfold ty1 at h
  obtain ⟨l, h1, h2⟩ := bsi.1 h
  split at h2
  · rename_i hs
    cases h2
    exact ⟨rfl, hs, leaves_und h1⟩
  · cases h2
theorem run_isAgg {t : TypeId} {D : TypeDesc} (h : P.underlying t = some D) (W : World) : (isAgg t).run P W = .ok (isAggT P t) W := by
  simp only [isAgg, Sem.run_bind, run_underlying h, Result.andThen_ok]
  unfold isAggT
  rw [h]
  cases D <;> rfl
theorem live_of_ld {A : AMem} {a i : Nat} {v : Value} (h : A.ld a i = some v) : A[a]? ≠ some .dead := by
  intro e; simp [AMem.ld, e] at h
theorem run_loadVar_agg {t : TypeId} {D : TypeDesc} {n : Nat} {q : Addr} {vs' : List Value} {W : World} (hD : P.underlying t = some D) (hagg : isAggT P t = true) (hn : sizeT P t = some n)
    (hl : (loadCells q n).run P W = .ok vs'.toArray W) : (loadVar t q).run P W = .ok (.agg vs'.toArray) W := by
  simp [loadVar, run_isAgg hD, hagg, run_sizeOf hn, hl]
theorem load_core {t : TypeId} {x : Bool × List Leaf} (hx : ty1 P t = some x) {A : AMem} {ι : Iota} {W : World} (hs : Sim P base A ι W) {p : Addr} {v' : Value}
    (hp : VRel A ι W (.pointer (some p)) v') {K : Value → Res} {r : Value × AMem}
    (hk : (if x.1 then ldLeaves (fun j => A.ld p.block (p.off + j)) x.2 0 fun vs => K (.agg vs.toArray) else match x.2 with | [lf] => ldLeaf lf (A.ld p.block p.off) K | _ => none) = some r) :
    ∃ u u' q, v' = .pointer (some q) ∧ K u = some r ∧ (loadVar t q).run P W = .ok u' W ∧ VRel A ι W u u' := by
  obtain ⟨h1, h2, D, h3⟩ := ty1_inv hx
  obtain ⟨q, rfl, hq⟩ := ptr_inv hp
  cases hb : x.1 with
  | true =>
    rw [hb] at hk h1
    simp only [if_true] at hk
    obtain ⟨us, ws, k1, k2, k3, k4, k5, k6⟩ := ldLeaves_ok _ _ _ hk
    by_cases h0 : x.2.length = 0
    · have hus : us = [] := List.length_eq_zero_iff.1 (k1.trans h0)
      subst hus
      refine ⟨_, .agg #[], q, rfl, k3, ?_, agg_of_LRel LRel.nil⟩
      exact run_loadVar_agg (vs' := []) h3 h1.symm h2 (by rw [h0]; rfl)
    · have hld : ∀ j w, ws[j]? = some w → A.ld p.block (p.off + j) = some w := fun j w e => by have := k5 j w e; simpa using this
      have hw0 : ws[0]? = some ws[0] := gee (by omega)
      rcases hq with hd | ⟨b, o, hi, rfl⟩
      · exact absurd hd (live_of_ld (hld 0 _ hw0))
      · obtain ⟨vs', e1, e2⟩ := hs.lds hi ws hld
        rw [k2] at e1
        exact ⟨_, _, _, rfl, k3, run_loadVar_agg h3 h1.symm h2 e1, agg_of_LRel (LRel.sub (k1.trans k2.symm) k6 (by simpa using e2))⟩
  | false =>
    rw [hb] at hk h1
    simp only [Bool.false_eq_true, if_false] at hk
    split at hk
    · obtain ⟨u, w, e1, e2, e3, e4⟩ := ldLeaf_ok hk
      rcases hq with hd | ⟨b, o, hi, rfl⟩
      · exact absurd hd (live_of_ld e1)
      · obtain ⟨w', f1, f2⟩ := hs.ld hi e1
        refine ⟨u, w', _, rfl, e2, ?_, e3 _ _ _ _ f2⟩
        simp [loadVar, run_isAgg h3, ← h1, f1]
    · cases hk
theorem load_ok {t : TypeId} {a : Operand} {x : Bool × List Leaf} (h : oc.op = .load t a) (hx : ty1 P t = some x) : OpOk P base rec oc (.load x.1 x.2 a) := by
  intro tt A ι W act K r hs ht hb hk
  have ha := ev_rel ht a
  simp only [opK] at hk
  split at hk
  · rename_i p e
    rw [e] at ha
    obtain ⟨u, u', q, q1, q2, q3, q4⟩ := load_core hx hs ha (K := fun v => K v A) hk
    refine ⟨u, A, q2, .pure hs (v' := u') ?_ q4⟩
    simp [execOp, h, Instr.loadAt, q1, Instr.sureAddr, q3]
  · cases hk
theorem store_ok {t : TypeId} {a x : Operand} {n : Nat} (h : oc.op = .store t a x) (hn : sizeT P t = some n) : OpOk P base rec oc (.store n a x) := by
  intro tt A ι W act K r hs ht hb hk
  have ha := ev_rel ht a
  have hx := ev_rel ht x
  simp only [opK] at hk
  split at hk
  · rename_i p e
    rw [e] at ha
    split at hk
    · rename_i hc
      obtain ⟨A', h1, h2⟩ := bsi.1 hk
      obtain ⟨q, hq, hm⟩ := ptr_inv ha
      have hr := cellsL_rel hx hc.2
      obtain ⟨cs, m, hA, _⟩ := wr_inv h1
      rcases hm with hd | ⟨b, o, hi, rfl⟩
      · rw [hA] at hd; cases hd
      · obtain ⟨W', k1, k2, k3⟩ := hs.write hi h1 hr hc.2
        refine ⟨undef, A', h2, _, undef, W', ι, ?_, .inr ⟨rfl, rfl⟩, k2, k3, VRel.undef'⟩
        have hsz : ¬ ((act.eval x).cells.size ≠ n) := by
          have := hr.1; rw [hc.1, ← cells_toList] at this; simpa using this.symm
        simp only [execOp, h, Instr.storeAt, hq, Instr.sureAddr]
        simp only [Sem.run_bind, pure_bind, storeVar, run_sizeOf hn, Result.andThen_ok, if_neg hsz, cells_toList, k1]
        rfl
    · cases hk
  · cases hk
theorem fieldAddr_ok {s : TypeId} {x : Operand} {f : Nat} {fs : Array Field} {fd : Field} {n : Nat} (h : oc.op = .fieldAddr s x f) (hs' : P.underlying s = some (.struct fs)) (hf : fs[f]? = some fd)
    (hn : sizeT P fd.type = some n) (hpos : 0 < n) : OpOk P base rec oc (.fieldAddr fd.offset x) := by
  intro tt A ι W act K r hs ht hb hk
  have hx := ev_rel ht x
  simp only [opK] at hk
  split at hk
  · rename_i p e
    rw [e] at hx
    obtain ⟨q, hq, hm⟩ := ptr_inv hx
    refine ⟨_, A, hk, .pure hs (v' := .pointer (some (q.add fd.offset))) ?_ ?_⟩
    · have h0 : ¬ n = 0 := by omega
      simp [execOp, h, Instr.fieldAt, run_underlying hs', hf, hq, Instr.sureAddr, fieldPlace, run_sizeOf hn, h0]
    · rcases hm with hd | ⟨b, o, hi, rfl⟩
      · exact .ptrDead ⟨p.block, p.off + fd.offset, none⟩ _ hd
      · rw [addr_add, Nat.add_assoc]
        exact .ptr ⟨p.block, p.off + fd.offset, none⟩ b o hi
  · cases hk
theorem run_part {t : TypeId} {D : TypeDesc} {n : Nat} (hD : P.underlying t = some D) (hn : sizeT P t = some n) (cs : Array Value) (off : Nat) (W : World) :
    (part t cs off).run P W = if isAggT P t then .ok (.agg (cs.extract off (off + n))) W else match cs[off]? with | some v => .ok v W | none => .halt (.stuck "part: no such cell") W := by
  simp only [part, Sem.run_bind, run_isAgg hD, Result.andThen_ok]
  cases isAggT P t
  · simp only [Bool.false_eq_true, if_false]
    cases cs[off]? <;> rfl
  · simp [run_sizeOf hn]
theorem extract_toList (cs : Array Value) (off n : Nat) : (cs.extract off (off + n)).toList = (cs.toList.drop off).take n := by
  simp [List.extract_eq_take_drop]
theorem field_ok {s : TypeId} {x : Operand} {f : Nat} {fs : Array Field} {fd : Field} {n : Nat} {D : TypeDesc} (h : oc.op = .field s x f) (hs' : P.underlying s = some (.struct fs)) (hf : fs[f]? = some fd)
    (hn : sizeT P fd.type = some n) (hD : P.underlying fd.type = some D) : OpOk P base rec oc (.field (isAggT P fd.type) fd.offset n x) := by
  intro tt A ι W act K r hs ht hb hk
  have hx := ev_rel ht x
  simp only [opK] at hk
  split at hk
  · rename_i cs e
    rw [e] at hx
    obtain ⟨x', hq, hr⟩ := agg_inv hx
    have hrun := run_part (P := P) hD hn x' fd.offset W
    have hex : (execOp act.eval oc).run P W = ((part fd.type x' fd.offset).run P W).andThen fun a w => .ok (.value a) w := by
      simp [execOp, h, Instr.field, run_underlying hs', hf, hq, asAgg]
    split at hk
    · rename_i hagg
      split at hk
      · rename_i hle
        refine ⟨_, A, hk, .pure hs (v' := .agg (x'.extract fd.offset (fd.offset + n))) ?_ ?_⟩
        · rw [hex, hrun, if_pos hagg]; rfl
        · refine agg_of_LRel ?_
          rw [extract_toList]
          exact (hr.drop _).take _
      · cases hk
    · rename_i hagg
      obtain ⟨v, h1, h2⟩ := bsi.1 hk
      obtain ⟨v', e1, e2⟩ := hr.get h1
      refine ⟨v, A, h2, .pure hs (v' := v') ?_ e2⟩
      rw [hex, hrun, if_neg hagg]
      have : x'[fd.offset]? = some v' := by simpa using e1
      rw [this]; rfl
  · cases hk
theorem indexAddr_ok {T e : TypeId} {x i : Operand} {n : Nat} (h : oc.op = .indexAddr T x i) (hT : P.underlying T = some (.slice e)) (hn : sizeT P e = some n) : OpOk P base rec oc (.indexAddr n x i) := by
  intro tt A ι W act K r hs ht hb hk
  have hx := ev_rel ht x
  have hi := ev_rel ht i
  simp only [opK] at hk
  split at hk
  · rename_i p ln c k iv e1 e2
    rw [e1] at hx; rw [e2] at hi
    have hi' := int_inv hi
    obtain ⟨q, c', hq, hle, hm⟩ := slice_inv hx
    split at hk
    · rename_i hc
      refine ⟨_, A, hk, .pure hs (v' := .pointer (some (q.add (iv.toNat * n)))) ?_ ?_⟩
      · simp [execOp, h, Instr.indexAt, hi', hq, asIntOf, run_underlying hT, run_sizeOf hn, hc.1, hc.2]
      · rcases hm with ⟨h0, _⟩ | ⟨hsp, hd | ⟨b, o, hib, rfl, _⟩⟩
        · omega
        · exact .ptrDead ⟨p.block, p.off + iv.toNat * n, none⟩ _ hd
        · rw [addr_add, Nat.add_assoc]
          exact .ptr ⟨p.block, p.off + iv.toNat * n, none⟩ b o hib
    · cases hk
  · cases hk
  · cases hk
theorem indexArr_ok {T e : TypeId} {x i : Operand} {len n : Nat} (h : oc.op = .indexAddr T x i) (hT : P.underlying T = some (.array len e)) (hn : sizeT P e = some n) : OpOk P base rec oc (.indexArr len n x i) := by
  intro tt A ι W act K r hs ht hb hk
  have hx := ev_rel ht x
  have hi := ev_rel ht i
  simp only [opK] at hk
  split at hk
  · rename_i p k iv e1 e2
    rw [e1] at hx; rw [e2] at hi
    have hi' := int_inv hi
    obtain ⟨q, hq, hm⟩ := ptr_inv hx
    split at hk
    · rename_i hc
      refine ⟨_, A, hk, .pure hs (v' := .pointer (some (q.add (iv.toNat * n)))) ?_ ?_⟩
      · simp [execOp, h, Instr.indexAt, hi', hq, asIntOf, run_underlying hT, run_sizeOf hn, hc.1, hc.2, Instr.sureAddr]
      · rcases hm with hd | ⟨b, o, hib, rfl⟩
        · exact .ptrDead ⟨p.block, p.off + iv.toNat * n, none⟩ _ hd
        · rw [addr_add, Nat.add_assoc]
          exact .ptr ⟨p.block, p.off + iv.toNat * n, none⟩ b o hib
    · cases hk
  · cases hk
theorem index_ok {T e : TypeId} {x i : Operand} {len n : Nat} {D : TypeDesc} (h : oc.op = .index T x i) (hT : P.underlying T = some (.array len e)) (hn : sizeT P e = some n) (hD : P.underlying e = some D) :
    OpOk P base rec oc (.index (isAggT P e) len n x i) := by
  intro tt A ι W act K r hs ht hb hk
  have hx := ev_rel ht x
  have hi := ev_rel ht i
  simp only [opK, idxK_eq] at hk
  split at hk
  · rename_i cs k iv e1 e2
    rw [e1] at hx; rw [e2] at hi
    have hi' := int_inv hi
    obtain ⟨x', hq, hr⟩ := agg_inv hx
    split at hk
    · rename_i hc
      have hrun := run_part (P := P) hD hn x' (iv.toNat * n) W
      have hex : (execOp act.eval oc).run P W = ((part e x' (iv.toNat * n)).run P W).andThen fun a w => .ok (.value a) w := by
        simp [execOp, h, Instr.index, run_underlying hT, hi', hq, asIntOf, hc.1, hc.2, run_sizeOf hn]
      split at hk
      · rename_i hagg
        split at hk
        · refine ⟨_, A, hk, .pure hs (v' := .agg (x'.extract (iv.toNat * n) (iv.toNat * n + n))) ?_ ?_⟩
          · rw [hex, hrun, if_pos hagg]; rfl
          · refine agg_of_LRel ?_
            rw [extract_toList]
            exact (hr.drop _).take _
        · cases hk
      · rename_i hagg
        obtain ⟨v, h1, h2⟩ := bsi.1 hk
        obtain ⟨v', f1, f2⟩ := hr.get h1
        refine ⟨v, A, h2, .pure hs (v' := v') ?_ f2⟩
        rw [hex, hrun, if_neg hagg]
        have : x'[iv.toNat * n]? = some v' := by simpa using f1
        rw [this]; rfl
    · cases hk
  · cases hk
theorem indexStr_ok {T : TypeId} {x i : Operand} (h : oc.op = .index T x i) (hT : P.underlying T = some .string) : OpOk P base rec oc (.indexStr x i) := by
  intro tt A ι W act K r hs ht hb hk
  have hx := ev_rel ht x
  have hi := ev_rel ht i
  simp only [opK] at hk
  split at hk
  · rename_i s k iv e1 e2
    rw [e1] at hx; rw [e2] at hi
    have hi' := int_inv hi
    have hx' := string_inv hx
    split at hk
    · rename_i hc
      obtain ⟨b, h1, h2⟩ := bsi.1 hk
      refine ⟨_, A, h2, .pure hs (v' := .int .u8 b.toNat) ?_ (.flat _ rfl)⟩
      have hb' : s[iv.toNat]? = some b := by
        obtain ⟨hlt, hv⟩ := ges.1 h1
        have hlt' : iv.toNat < s.size := by simpa using hlt
        rw [getElem?_pos s iv.toNat hlt']
        congr 1
      simp [execOp, h, Instr.index, run_underlying hT, hi', hx', asIntOf, hc, hb']
    · cases hk
  · cases hk
end
section
variable {P : Program} {base : Nat} {rec : Rec} {oc : Oper}
theorem bound_inv {A : AMem} {ι : Iota} {W : World} {t : List Value} {act : Act} (ht : LRel A ι W t act.tmps.toList) {d : Nat} {o : Option Operand} {z : Int} (h : boundOf t d o = some z) :
    (o.map act.eval = none ∧ z = d) ∨ ∃ k, o.map act.eval = some (.int k z) := by
  cases o with
  | none => cases h; exact .inl ⟨rfl, rfl⟩
  | some x =>
    have hx := ev_rel ht x
    simp only [boundOf] at h
    split at h
    · rename_i k n e
      cases h
      rw [e] at hx
      exact .inr ⟨k, by simp [int_inv hx]⟩
    · cases h
theorem run_sb (isSlice : Bool) (len cap : Nat) (lo' hi' : Option Value) (lv hv : Int) (hlo : (lo' = none ∧ lv = (0 : Nat)) ∨ ∃ k, lo' = some (.int k lv)) (hhi : (hi' = none ∧ hv = len) ∨ ∃ k, hi' = some (.int k hv))
    (h0 : 0 ≤ lv) (h1 : lv ≤ hv) (h2 : hv ≤ cap) (W : World) : (Instr.sliceBounds isSlice len cap lo' hi' none).run P W = .ok (lv.toNat, hv.toNat, cap) W := by
  have hc : 0 ≤ hv := by omega
  have hm : ((hv.toNat : Nat) : Int) = hv := by omega
  rcases hhi with ⟨rfl, rfl⟩ | ⟨kh, rfl⟩ <;> rcases hlo with ⟨rfl, rfl⟩ | ⟨kl, rfl⟩ <;>
    simp [Instr.sliceBounds, Instr.sliceBound, asIntOf, h0, h1, h2, hc, hm]
theorem slice_ok {T e : TypeId} {x : Operand} {lo hi : Option Operand} {n : Nat} (h : oc.op = .slice T x lo hi none) (hT : P.underlying T = some (.slice e)) (hn : sizeT P e = some n) : OpOk P base rec oc (.slice n x lo hi) := by
  intro tt A ι W act K r hs ht hb hk
  have hx := ev_rel ht x
  simp only [opK] at hk
  split at hk
  · rename_i p ln c e1
    rw [e1] at hx
    obtain ⟨lv, l1, hk⟩ := bsi.1 hk
    obtain ⟨hv, l2, hk⟩ := bsi.1 hk
    split at hk
    · rename_i hc
      obtain ⟨c1, c2, c3⟩ := hc
      have b1 := bound_inv ht l1
      have b2 := bound_inv ht l2
      cases p with
      | none =>
        obtain ⟨n0, c0, hq⟩ := nilslice_inv hx
        subst n0; subst c0
        have hlv : lv = 0 := by omega
        have hhv : hv = 0 := by omega
        subst hlv; subst hhv
        refine ⟨_, A, hk, .pure hs (v' := .slice none 0 0) ?_ ?_⟩
        · have := run_sb (P := P) true 0 0 (lo.map act.eval) (hi.map act.eval) 0 0 b1 b2 (by omega) (by omega) (by omega) W
          simp [execOp, h, Instr.sliceAt, run_underlying hT, Instr.slice, hq, this, run_sizeOf hn]
        · have : (if (0 : Nat) = n then n else 0) = 0 := by split <;> omega
          simp only [Option.map_none, this]
          exact .flat _ rfl
      | some p =>
        obtain ⟨q, c', hq, hle, hm⟩ := slice_inv hx
        have hrun := run_sb (P := P) true ln c' (lo.map act.eval) (hi.map act.eval) lv hv b1 b2 c1 c2 (by omega) W
        refine ⟨_, A, hk, .pure hs (v' := .slice (if c' = lv.toNat then some q else some (q.add (lv.toNat * n))) (hv.toNat - lv.toNat) (c' - lv.toNat)) ?_ ?_⟩
        · simp [execOp, h, Instr.sliceAt, run_underlying hT, Instr.slice, hq, hrun, run_sizeOf hn]
        · have hlen : (hv - lv).toNat = hv.toNat - lv.toNat := by omega
          simp only [Option.map_some]
          rw [hlen]
          by_cases hcl : c' = lv.toNat
          · have z1 : hv.toNat - lv.toNat = 0 := by omega
            have z2 : c' - lv.toNat = 0 := by omega
            rw [if_pos hcl, z1, z2]
            exact .sliceEmpty _ q _
          · rw [if_neg hcl]
            rcases hm with ⟨h0, h1⟩ | ⟨hsp, hd | ⟨b, o, hib, rfl, hbd⟩⟩
            · omega
            · exact .sliceDead ⟨p.block, p.off + lv.toNat * n, p.spot⟩ _ _ _ _ hd hsp (by omega)
            · rw [addr_add, Nat.add_assoc]
              refine .slice ⟨p.block, p.off + lv.toNat * n, p.spot⟩ _ _ _ b o hib hsp (by omega) fun hz => ?_
              simp only at hz ⊢
              split at hz
              · rename_i hcn
                subst hcn
                have := hbd hz
                rw [if_pos rfl]
                have e2 : lv.toNat * c + (c' - lv.toNat) * c = c' * c := by rw [← Nat.add_mul]; congr 1; omega
                omega
              · exact absurd rfl hz
    · cases hk
  · cases hk
theorem slice0_ok {T e : TypeId} {x : Operand} {kh km : IntKind} (h : oc.op = .slice T x none (some (.const (.int kh 0))) (some (.const (.int km 0)))) (hT : P.underlying T = some (.slice e)) {n : Nat} (hn : sizeT P e = some n) : OpOk P base rec oc (.slice0 x) := by
  intro tt A ι W act K r hs ht hb hk
  have hx := ev_rel ht x
  simp only [opK] at hk
  have hrun : ∀ (ln c' : Nat), (Instr.sliceBounds true ln c' none (some (.int kh 0)) (some (.int km 0))).run P W = .ok (0, 0, 0) W := fun ln c' => by
    simp [Instr.sliceBounds, Instr.sliceBound, asIntOf]
  split at hk
  · rename_i p ln c e1
    rw [e1] at hx
    obtain ⟨q, c', hq, hle, hm⟩ := slice_inv hx
    refine ⟨_, A, hk, .pure hs (v' := .slice (some q) 0 0) ?_ (.sliceEmpty _ q _)⟩
    have ek : act.eval (.const (.int kh 0)) = .int kh 0 := rfl
    have em : act.eval (.const (.int km 0)) = .int km 0 := rfl
    simp [execOp, h, Instr.sliceAt, run_underlying hT, Instr.slice, hq, ek, em, hrun, run_sizeOf hn]
  · rename_i ln c e1
    rw [e1] at hx
    obtain ⟨_, _, hq⟩ := nilslice_inv hx
    refine ⟨_, A, hk, .pure hs (v' := .slice none 0 0) ?_ (.flat _ rfl)⟩
    have ek : act.eval (.const (.int kh 0)) = .int kh 0 := rfl
    have em : act.eval (.const (.int km 0)) = .int km 0 := rfl
    simp [execOp, h, Instr.sliceAt, run_underlying hT, Instr.slice, hq, ek, em, hrun, run_sizeOf hn]
  · cases hk
theorem sliceArr_core {A : AMem} {ι : Iota} {W : World} {p : Addr} {q : Addr} (hm : A[p.block]? = some .dead ∨ ∃ b o, ι p.block = some (b, o) ∧ q = ⟨b, o + p.off, none⟩) (len n : Nat) (lv hv : Int)
    (c1 : 0 ≤ lv) (c2 : lv ≤ hv) (c3 : hv ≤ len) :
    VRel A ι W (.slice (some ⟨p.block, p.off + lv.toNat * n, none⟩) (hv - lv).toNat 0) (.slice (some (if len = lv.toNat then q else q.add (lv.toNat * n))) (hv.toNat - lv.toNat) (len - lv.toNat)) := by
  have hlen : (hv - lv).toNat = hv.toNat - lv.toNat := by omega
  rw [hlen]
  by_cases hcl : len = lv.toNat
  · have z1 : hv.toNat - lv.toNat = 0 := by omega
    have z2 : len - lv.toNat = 0 := by omega
    rw [if_pos hcl, z1, z2]
    exact .sliceEmpty _ q _
  · rw [if_neg hcl]
    rcases hm with hd | ⟨b, o, hib, rfl⟩
    · exact .sliceDead ⟨p.block, p.off + lv.toNat * n, none⟩ _ _ _ _ hd rfl (by omega)
    · rw [addr_add, Nat.add_assoc]
      exact .slice ⟨p.block, p.off + lv.toNat * n, none⟩ _ _ _ b o hib rfl (by omega) fun hz => absurd rfl hz
theorem sliceArr_ok {T e : TypeId} {x : Operand} {lo hi : Option Operand} {len n : Nat} (h : oc.op = .slice T x lo hi none)
    (hT : P.underlying T = some (.array len e) ∨ ∃ a, P.underlying T = some (.pointer a) ∧ P.underlying a = some (.array len e)) (hn : sizeT P e = some n) : OpOk P base rec oc (.sliceArr len n x lo hi) := by
  intro tt A ι W act K r hs ht hb hk
  have hx := ev_rel ht x
  simp only [opK] at hk
  split at hk
  · rename_i p e1
    rw [e1] at hx
    obtain ⟨lv, l1, hk⟩ := bsi.1 hk
    obtain ⟨hv, l2, hk⟩ := bsi.1 hk
    split at hk
    · rename_i hc
      obtain ⟨c1, c2, c3⟩ := hc
      have b1 := bound_inv ht l1
      have b2 := bound_inv ht l2
      obtain ⟨q, hq, hm⟩ := ptr_inv hx
      have hrun := run_sb (P := P) false len len (lo.map act.eval) (hi.map act.eval) lv hv b1 b2 c1 c2 c3 W
      refine ⟨_, A, hk, .pure hs (v' := .slice (some (if len = lv.toNat then q else q.add (lv.toNat * n))) (hv.toNat - lv.toNat) (len - lv.toNat)) ?_ (sliceArr_core hm len n lv hv c1 c2 c3)⟩
      rcases hT with hT | ⟨a, hT, hT2⟩
      · simp [execOp, h, Instr.sliceAt, run_underlying hT, hq, Instr.sureAddr, hrun, run_sizeOf hn]
      · simp [execOp, h, Instr.sliceAt, run_underlying hT, run_underlying hT2, Instr.slice, asAddr, hq, hrun, run_sizeOf hn]
    · cases hk
  · cases hk
theorem rowOf_ok {A : AMem} {ι : Iota} {W : World} (hs : Sim P base A ι W) {esz : Nat} {v v' : Value} {row : List Value} {m : Nat} (hv : VRel A ι W v v') (hl : lenV v = some m) (h : rowOf A esz v = some row) :
    ∃ (q : Option Addr) (c' : Nat) (row' : List Value), v' = .slice q m c' ∧ row.length = m * esz ∧ LRel A ι W row row' ∧ (Builtin.firstCells esz m v').run P W = .ok row'.toArray W ∧
      (∀ (a : Addr), q = some a → ∀ (j : Nat) (u : Value), row'[j]? = some u → W.cell? (a.add j) = some u) ∧ (q = none → m = 0) := by
  unfold rowOf at h
  split at h
  · rename_i n c
    cases hl
    split at h
    · rename_i h0
      cases h; subst h0
      obtain ⟨_, _, rfl⟩ := nilslice_inv hv
      exact ⟨none, 0, [], rfl, by simp, LRel.nil, rfl, fun a e => (by cases e), fun _ => rfl⟩
    · cases h
  · rename_i p n c
    cases hl
    obtain ⟨q, c', rfl, hle, hm⟩ := slice_inv hv
    split at h
    · rename_i h0
      cases h; subst h0
      refine ⟨some q, c', [], rfl, by simp, LRel.nil, ?_, fun a e j u e2 => by simp at e2, fun e => by cases e⟩
      simp [Builtin.firstCells, loadCells, loadCellsFrom]
    · rename_i h0
      obtain ⟨r1, r2⟩ := rd_inv h
      by_cases hz : row = []
      · subst hz
        refine ⟨some q, c', [], rfl, r1, LRel.nil, ?_, fun a e j u e2 => by simp at e2, fun e => by cases e⟩
        simp at r1
        simp [Builtin.firstCells, ← r1, loadCells, loadCellsFrom]
      · have hpos : 0 < row.length := List.length_pos_iff.2 hz
        have hd := live_of_ld (r2 0 _ (gee hpos))
        rcases hm with ⟨h1, _⟩ | ⟨hsp, hdd | ⟨b, o, hib, rfl, _⟩⟩
        · exact absurd h1 h0
        · exact absurd hdd hd
        · obtain ⟨vs', e1, e2⟩ := hs.lds hib row r2
          rw [r1] at e1
          refine ⟨_, c', vs', rfl, r1, e2, by simpa [Builtin.firstCells] using e1, fun a e j u e3 => ?_, fun e => by cases e⟩
          cases e
          have hj : j < row.length := by rw [e2.1]; exact (ges.1 e3).1
          obtain ⟨v', f1, f2⟩ := hs.ld hib (r2 j _ (gee hj))
          rw [addr_add]
          have hrun2 := run_loadCells (P := P) W ⟨b, o + p.off, none⟩ (m * esz) (fun j => (W.cell? ⟨b, o + p.off + j, none⟩).getD undef) (fun j hj => by
            obtain ⟨v'', g1, _⟩ := hs.ld hib (r2 j _ (gee (by rw [r1]; exact hj)))
            rw [addr_add, Nat.add_assoc, g1]; rfl)
          rw [e1] at hrun2
          have : vs' = (List.range (m * esz)).map fun j => (W.cell? ⟨b, o + p.off + j, none⟩).getD undef := by
            have := congrArg (fun r => match r with | Result.ok a _ => a.toList | _ => []) hrun2
            simpa using this
          rw [this] at e3
          rw [List.getElem?_map, List.getElem?_range (by rw [← r1]; exact hj)] at e3
          simp only [Option.map_some] at e3
          rw [← Nat.add_assoc] at f1
          rw [f1] at e3 ⊢
          simpa using e3
  · cases h
theorem rd_leaf {A : AMem} {ι : Iota} {W : World} (hs : Sim P base A ι W) {a b o off n : Nat} {row : List Value} (hi : ι a = some (b, o)) (h : A.rd a off n = some row) : row.all leafV = true := by
  unfold AMem.rd at h
  split at h
  · rename_i cs m hA
    split at h
    · cases h
      have := hs.leaf a b o cs m hi hA
      rw [List.all_eq_true] at this ⊢
      exact fun v hv => this v (List.mem_of_mem_drop (List.mem_of_mem_take hv))
    · cases h
  · cases h
theorem rowOf_leaf {A : AMem} {ι : Iota} {W : World} (hs : Sim P base A ι W) {esz : Nat} {v v' : Value} {row : List Value} (hv : VRel A ι W v v') (h : rowOf A esz v = some row) : row.all leafV = true := by
  unfold rowOf at h
  split at h
  · split at h
    · cases h; rfl
    · cases h
  · rename_i p n c
    split at h
    · cases h; rfl
    · rename_i hn0
      obtain ⟨q, c', _, _, hm⟩ := slice_inv hv
      by_cases hz : row = []
      · subst hz; rfl
      · obtain ⟨r1, r2⟩ := rd_inv h
        have hd := live_of_ld (r2 0 _ (gee (List.length_pos_iff.2 hz)))
        rcases hm with ⟨h1, _⟩ | ⟨_, hdd | ⟨b, o, hib, _, _⟩⟩
        · exact absurd h1 hn0
        · exact absurd hdd hd
        · exact rd_leaf hs hib h
  · cases h
end
section
variable {P : Program} {base : Nat} {rec : Rec} {oc : Oper}
theorem run_grow {sT xT ty e e2 : TypeId} {i : TypeInfo} {z : Value} (hs : P.underlying sT = some (.slice e)) (hx : P.underlying xT = some (.slice e2)) (hi : P.info? e = some i) (hz : i.zero = some z)
    (q r : Option Addr) (n c m cm : Nat) (W : World) (old new : List Value) (hold : (Builtin.firstCells i.size n (.slice q n c)).run P W.drew = .ok old.toArray W.drew)
    (hnew : (Builtin.firstCells i.size m (.slice r m cm)).run P W.drew = .ok new.toArray W.drew) (hg : c < n + m) (h63 : ((n + m : Nat) : Int) ≤ 9223372036854775807)
    (hfit : Builtin.nextslicecap (n + m) c * i.bytes ≤ 281474976710656) :
    (Builtin.append_ #[sT, xT] ty #[.slice q n c, .slice r m cm]).run P W =
      .ok (.slice (some ⟨W.heap.size, 0, none⟩) (n + m) (grownCap W (n + m) c e))
        (W.drew.alloc (.cells (old.toArray ++ new.toArray ++ Builtin.zeroCells z.cells (grownCap W (n + m) c e - (n + m))) e)) := by
  have hn : ¬ (n + m ≤ c) := by omega
  have h63' : ¬ (9223372036854775807 < ((n : Int) + (m : Int))) := by omega
  have h48' : ¬ (281474976710656 < Builtin.nextslicecap (n + m) c * i.bytes) := by omega
  simp [Builtin.append_, run_underlying hs, run_underlying hx, sizeOf, typeInfo, zeroValue, hi, hz, Builtin.lenOf, hn, h63', h48', Question.forced, hold, hnew, newRow, grownCap]
  congr 2
  apply Array.ext'
  simp [List.append_assoc]
theorem run_room {sT xT ty e e2 : TypeId} {i : TypeInfo} (hs : P.underlying sT = some (.slice e)) (hx : P.underlying xT = some (.slice e2)) (hi : P.info? e = some i)
    (q : Addr) (r : Option Addr) (n c m cm : Nat) (W W' : World) (new : List Value)
    (hnew : (Builtin.firstCells i.size m (.slice r m cm)).run P W = .ok new.toArray W) (hg : n + m ≤ c) (hst : (storeCells (q.add (n * i.size)) new).run P W = .ok () W') :
    (Builtin.append_ #[sT, xT] ty #[.slice (some q) n c, .slice r m cm]).run P W = .ok (.slice (some q) (n + m) c) W' := by
  simp [Builtin.append_, run_underlying hs, run_underlying hx, sizeOf, typeInfo, hi, Builtin.lenOf, hg, hnew, hst]
theorem le_grownCap (W : World) (need old : Nat) (e : TypeId) : need ≤ grownCap W need old e := by
  unfold grownCap Question.cut; simp
theorem LRel.app_left {A : AMem} {ι : Iota} {W : World} {l l' : List Value} (h : LRel A ι W l l') (r : List Value) {j : Nat} {v : Value} (hj : l[j]? = some v) : ∃ v', (l' ++ r)[j]? = some v' ∧ VRel A ι W v v' := by
  obtain ⟨v', e1, e2⟩ := h.get hj
  exact ⟨v', by rw [List.getElem?_append_left (ges.1 e1).1]; exact e1, e2⟩
theorem grow_done {T xT e e2 : TypeId} {i : TypeInfo} {z : Value} {c0 : Call} (h : oc.op = .call c0) (hc : c0.callee = .builtin .append) {x y : Operand} (hargs : c0.args.toList = [x, y]) (htys : c0.argTypes.toList = [T, xT])
    (hT : P.underlying T = some (.slice e)) (hxT : P.underlying xT = some (.slice e2)) (hi : P.info? e = some i) (hz : i.zero = some z) (hzs : z.cells.size = i.size)
    {A A1 : AMem} {ι : Iota} {W : World} {act : Act} (hb : base ≤ W.heap.size) (hs1 : Sim P base A1 ι W) (hle : Le A ι W A1 ι W) (hlen : A1.length = A.length)
    (q r : Option Addr) (n c m cm : Nat) (hx : act.eval x = .slice q n c) (hy : act.eval y = .slice r m cm) (old new : List Value) (old' new' : List Value)
    (hlf : (old ++ new).all leafV = true) (hold : LRel A1 ι W old old') (hnew : LRel A1 ι W new new') (ho : old.length = n * i.size) (hn : new.length = m * i.size)
    (rold : (Builtin.firstCells i.size n (.slice q n c)).run P W.drew = .ok old'.toArray W.drew) (rnew : (Builtin.firstCells i.size m (.slice r m cm)).run P W.drew = .ok new'.toArray W.drew)
    (hg : c < n + m) (hbd : (2 * (n + m) + 1024) * (i.bytes + 1) ≤ 281474976710656) :
    Done P base oc act A ι W (.slice (some ⟨A.length, 0, none⟩) (n + m) i.size) (A1 ++ [.cells (old ++ new) ⟨false, 0⟩]) := by
  have h1 : 2 * (n + m) * i.bytes ≤ 281474976710656 := by
    have : 2 * (n + m) * i.bytes ≤ (2 * (n + m) + 1024) * (i.bytes + 1) := Nat.mul_le_mul (Nat.le_add_right _ _) (Nat.le_add_right _ _)
    exact Nat.le_trans this hbd
  have h2 : (2 * (n + m) + 1024) ≤ 281474976710656 := by
    have : (2 * (n + m) + 1024) * 1 ≤ (2 * (n + m) + 1024) * (i.bytes + 1) := Nat.mul_le_mul (Nat.le_refl _) (Nat.le_add_left _ _)
    rw [Nat.mul_one] at this
    exact Nat.le_trans this hbd
  have hfit : Builtin.nextslicecap (n + m) c * i.bytes ≤ 281474976710656 := Nat.le_trans (Nat.mul_le_mul_right _ (nextslicecap_le hg)) h1
  have hrun := run_grow (P := P) (ty := oc.type) hT hxT hi hz q r n c m cm W old' new' rold rnew hg (by omega) hfit
  obtain ⟨s2, ev2⟩ := hs1.of_heap (W' := W.drew) rfl rfl rfl rfl
  have hx0 : (A1 ++ [AObj.cells (old ++ new) ⟨false, 0⟩])[A.length]? = some (.cells (old ++ new) ⟨false, 0⟩) := by rw [← hlen]; simp
  generalize hcap : grownCap W (n + m) c e = cap at hrun
  have hcap' : n + m ≤ cap := by rw [← hcap]; exact le_grownCap _ _ _ _
  generalize hcs : (old'.toArray ++ new'.toArray ++ Builtin.zeroCells z.cells (cap - (n + m))) = cs' at hrun
  have hcsl : cs'.toList = (old' ++ new') ++ (Builtin.zeroCells z.cells (cap - (n + m))).toList := by rw [← hcs]; simp
  have hcss : cs'.size = cap * i.size := by
    rw [← hcs]
    simp only [Array.size_append, List.size_toArray, size_zeroCells, hzs]
    rw [← hold.1, ← hnew.1, ho, hn, ← Nat.add_mul, ← Nat.add_mul]
    congr 1; omega
  have happ := (hold.append hnew).mono ev2.le
  obtain ⟨k1, k2⟩ := s2.newCells (A' := A1 ++ [.cells (old ++ new) ⟨false, 0⟩]) hb A.length (by rw [← hlen]; exact hs1.fresh) (by rw [← hlen]; simp) (by simp) (fun a ha => by
      by_cases hlt : a < A1.length
      · rw [List.getElem?_append_left hlt]
      · rw [List.getElem?_eq_none (by simp; omega), List.getElem?_eq_none (by omega)]) (old ++ new) ⟨false, 0⟩ hx0 hlf cs' e
      (by rw [hcss]; simp only [List.length_append, ho, hn, ← Nat.add_mul]; exact Nat.mul_le_mul_right _ hcap')
      (fun j v hj => by
        obtain ⟨v', q1, q2⟩ := happ.app_left (Builtin.zeroCells z.cells (cap - (n + m))).toList hj
        rw [← hcsl] at q1
        exact ⟨v', by simpa using q1, q2⟩)
  refine ⟨.value (.slice (some ⟨W.heap.size, 0, none⟩) (n + m) cap), .slice (some ⟨W.heap.size, 0, none⟩) (n + m) cap, _, _, ?_, .inl rfl, k1, (Ev.trans ⟨hle, .refl _ _, fun _ _ h => h, fun _ l h => ⟨l, h⟩⟩ ev2).trans k2, ?_⟩
  · have ht : c0.argTypes = #[T, xT] := by rw [← Array.toArray_toList (xs := c0.argTypes), htys]
    rw [exec_call h]
    simp only [resolve, hc, args_of hargs, Sem.run_bind, Sem.run_pure, Result.andThen_ok, pure_bind, invoke, builtin, ht]
    have : (List.map act.eval [x, y]).toArray = #[act.eval x, act.eval y] := rfl
    simp [hx, hy, hrun]
  · refine .slice ⟨A.length, 0, none⟩ _ _ _ _ 0 (upd_same _ _ _) rfl hcap' fun _ => ?_
    unfold szW
    have := heap_alloc_self (W := W.drew) (.cells cs' e)
    have hh : (W.drew.alloc (.cells cs' e)).heap[W.heap.size]? = some (.cells cs' e) := this
    change 0 + 0 + cap * i.size ≤ (match (W.drew.alloc (.cells cs' e)).heap[W.heap.size]? with | some (.cells c _ _) => c.size | _ => 0)
    rw [hh]
    simp [hcss]
theorem room_done {T xT e e2 : TypeId} {i : TypeInfo} {c0 : Call} (h : oc.op = .call c0) (hc : c0.callee = .builtin .append) {x y : Operand} (hargs : c0.args.toList = [x, y]) (htys : c0.argTypes.toList = [T, xT])
    (hT : P.underlying T = some (.slice e)) (hxT : P.underlying xT = some (.slice e2)) (hi : P.info? e = some i)
    {A : AMem} {ι : Iota} {W : World} {act : Act} (hs : Sim P base A ι W) (p : Addr) (b o : Nat) (hib : ι p.block = some (b, o)) (cs : List Value) (mt : Meta) (hA : A[p.block]? = some (.cells cs mt)) (hro : mt.ro = false)
    (r : Option Addr) (n c m cm : Nat) (hx : act.eval x = .slice (some ⟨b, o + p.off, none⟩) n c) (hy : act.eval y = .slice r m cm) (new new' : List Value)
    (hlf : new.all leafV = true) (hnew : LRel A ι W new new') (hn : new.length = m * i.size) (hoff : p.off + n * i.size ≤ cs.length) (hbnd : o + p.off + c * i.size ≤ szW W b)
    (rnew : (Builtin.firstCells i.size m (.slice r m cm)).run P W = .ok new'.toArray W)
    (hg : n + m ≤ c) :
    Done P base oc act A ι W (.slice (some ⟨A.length, 0, none⟩) (n + m) i.size) (A.set p.block .dead ++ [.cells ((cs.drop p.off).take (n * i.size) ++ new) ⟨false, 0⟩]) := by
  obtain ⟨cs', t, fr, hb, b1, b2, b3⟩ := hs.cells p.block b o cs mt hib hA
  obtain ⟨rfl, hbase⟩ := b3 hro
  have hszb : szW W b = cs'.size := by unfold szW; rw [hb]
  have hone := hnew.leaf hlf
  rw [hszb] at hbnd
  have hmul : n * i.size + m * i.size ≤ c * i.size := by rw [← Nat.add_mul]; exact Nat.mul_le_mul_right _ hg
  have hrun := run_storeCells_at P b (o + p.off + n * i.size) t new' 0 cs' W hb (by rw [← hnew.1, hn]; omega) hone
  simp only [Nat.add_zero] at hrun
  generalize hna : (cs'.toList.take (o + p.off + n * i.size) ++ new' ++ cs'.toList.drop (o + p.off + n * i.size + new'.length)).toArray = na at hrun
  have hnaget : ∀ j : Nat, na[j]? = if o + p.off + n * i.size ≤ j ∧ j < o + p.off + n * i.size + new'.length then new'[j - (o + p.off + n * i.size)]? else cs'[j]? := fun j => by
    rw [← hna]
    have := seg_get cs'.toList (o + p.off + n * i.size) new' (by rw [← hnew.1, hn]; simp; omega) j
    simpa using this
  have hnasz : na.size = cs'.size := by rw [← hna]; simp; rw [← hnew.1, hn]; omega
  have hroom := run_room (P := P) (ty := oc.type) hT hxT hi ⟨b, o + p.off, none⟩ r n c m cm W _ new' rnew hg (by rw [addr_add]; exact hrun)
  have hheap := setRow_heap W b cs' na t (0, 0) hb
  have hoth := fun k (hk : k ≠ b) => setRow_other W b k na hk
  have hsz : ∀ k, szW W k ≤ szW (W.setRow b na) k := fun k => by
    unfold szW
    by_cases e : k = b
    · subst e; rw [hb, hheap]; simp [hnasz]
    · rw [hoth k e]; exact Nat.le_refl _
  obtain ⟨s1, le1⟩ := hs.kill p.block (by rw [hA]; simp)
  have halt := hs.lt hib
  have hA1 : ∀ a : Nat, a ≠ A.length → (A.set p.block .dead ++ [AObj.cells ((cs.drop p.off).take (n * i.size) ++ new) ⟨false, 0⟩])[a]? = (A.set p.block .dead)[a]? := fun a ha => by
    by_cases hlt : a < A.length
    · rw [List.getElem?_append_left (by simpa using hlt)]
    · rw [List.getElem?_eq_none (by simp; omega), List.getElem?_eq_none (by simp; omega)]
  have hx0 : (A.set p.block .dead ++ [AObj.cells ((cs.drop p.off).take (n * i.size) ++ new) ⟨false, 0⟩])[A.length]? = some (.cells ((cs.drop p.off).take (n * i.size) ++ new) ⟨false, 0⟩) := by
    have : (A.set p.block .dead).length = A.length := by simp
    rw [← this]; simp
  have le2 : Le (A.set p.block .dead) ι W (A.set p.block .dead ++ [AObj.cells ((cs.drop p.off).take (n * i.size) ++ new) ⟨false, 0⟩]) (upd ι A.length b (o + p.off)) (W.setRow b na) :=
    Le.put A.length b (o + p.off) hA1 (upd_other A.length _ _) (upd_same _ _ _) ⟨by rw [List.getElem?_eq_none (by simp)]; simp, .inl ⟨hs.fresh, by simp⟩⟩ (by simp) hsz (fun cs0 m0 e => by rw [List.getElem?_eq_none (by simp)] at e; cases e)
  have hfree : ∀ a o', a ≠ A.length → ι a = some (b, o') → (A.set p.block .dead)[a]? = some .dead := fun a o' hne hi' => by
    by_cases e : a = p.block
    · subst e; rw [List.getElem?_set]; simp [halt]
    · have := hs.sep p.block a b o o' (Ne.symm e) hib hi' (.inl ⟨cs, mt, hA, hro⟩)
      rw [List.getElem?_set, if_neg (Ne.symm e)]; exact this
  have hlenold : ((cs.drop p.off).take (n * i.size)).length = n * i.size := by simp; omega
  have s2 := s1.put A.length b (o + p.off) _ hA1 hx0 (upd_other A.length _ _) (upd_same _ _ _) le2 hfree (fun k hk _ => hoth k hk) (by simp) (by
    intro cs0 m0 e0
    cases e0
    refine ⟨na, t, (0, 0), hheap, by rw [hnasz, List.length_append, hlenold, hn]; omega, fun j v hj => ?_, fun _ => ⟨rfl, hbase⟩⟩
    rw [List.getElem?_append, hlenold] at hj
    rw [hnaget]
    split at hj
    · rename_i hlt
      rw [if_neg (by omega)]
      rw [List.getElem?_take, if_pos hlt, List.getElem?_drop] at hj
      obtain ⟨v', q1, q2⟩ := b2 _ v hj
      exact ⟨v', by rw [Nat.add_assoc]; exact q1, (q2.mono le1).mono le2⟩
    · rename_i hge
      have hjl : j - n * i.size < new.length := (ges.1 hj).1
      rw [if_pos (by rw [← hnew.1]; omega), show o + p.off + j - (o + p.off + n * i.size) = j - n * i.size by omega]
      obtain ⟨v', q1, q2⟩ := hnew.get hj
      exact ⟨v', q1, (q2.mono le1).mono le2⟩) (fun l e => by cases e) (fun cs0 m0 e => by
    cases e
    have hcl := hs.leaf _ _ _ _ _ hib hA
    rw [List.all_eq_true] at hcl hlf ⊢
    intro v hv
    rcases List.mem_append.1 hv with hv | hv
    · exact hcl v (List.mem_of_mem_drop (List.mem_of_mem_take hv))
    · exact hlf v hv)
  refine ⟨.value (.slice (some ⟨b, o + p.off, none⟩) (n + m) c), .slice (some ⟨b, o + p.off, none⟩) (n + m) c, W.setRow b na, upd ι A.length b (o + p.off), ?_, .inl rfl, s2, ⟨le1.trans le2, ⟨rfl, rfl, rfl, by simp, fun k hk => hoth k (by omega)⟩, fun r ds e => ?_, fun r l e => ?_⟩, ?_⟩
  · have ht : c0.argTypes = #[T, xT] := by rw [← Array.toArray_toList (xs := c0.argTypes), htys]
    rw [exec_call h]
    simp only [resolve, hc, args_of hargs, Sem.run_bind, Sem.run_pure, Result.andThen_ok, pure_bind, invoke, builtin, ht]
    simp [hx, hy, hroom]
  · by_cases er : r = b
    · subst er; rw [hb] at e; cases e
    · rw [hoth r er]; exact e
  · by_cases er : r = b
    · subst er; rw [hb] at e; cases e
    · exact ⟨l, by rw [hoth r er]; exact e⟩
  · refine .slice ⟨A.length, 0, none⟩ _ _ _ b (o + p.off) (upd_same _ _ _) rfl hg fun _ => ?_
    unfold szW
    rw [hheap]
    simp [hnasz]; omega
end
section
variable {P : Program} {base : Nat} {rec : Rec} {oc : Oper}
theorem run_append_none {sT xT ty e e2 : TypeId} {i : TypeInfo} (hs : P.underlying sT = some (.slice e)) (hx : P.underlying xT = some (.slice e2)) (hi : P.info? e = some i)
    (q r : Option Addr) (n c cm : Nat) (W : World) (hnew : (Builtin.firstCells i.size 0 (.slice r 0 cm)).run P W = .ok #[] W) (hg : n ≤ c) :
    (Builtin.append_ #[sT, xT] ty #[.slice q n c, .slice r 0 cm]).run P W = .ok (.slice q n c) W := by
  cases q <;> simp [Builtin.append_, run_underlying hs, run_underlying hx, sizeOf, typeInfo, hi, Builtin.lenOf, hg, hnew, storeCells]
theorem append_ok {T xT e e2 : TypeId} {i : TypeInfo} {c0 : Call} (h : oc.op = .call c0) (hc : c0.callee = .builtin .append) {x y : Operand} (hargs : c0.args.toList = [x, y]) (htys : c0.argTypes.toList = [T, xT])
    (hT : P.underlying T = some (.slice e)) (hxT : P.underlying xT = some (.slice e2)) (hi : P.info? e = some i) (hpos : 0 < i.size) (hz : (zeroL P e).isSome = true) :
    OpOk P base rec oc (.append i.size i.bytes x y) := by
  intro tt A ι W act K r hs ht hb hk
  have hx := ev_rel ht x
  have hy := ev_rel ht y
  obtain ⟨zl, hzl⟩ := Option.isSome_iff_exists.1 hz
  obtain ⟨i', z, z1, z2, z3, z4, z5⟩ := zeroL_inv hzl
  rw [hi] at z1; cases z1
  have hzs : z.cells.size = i.size := by rw [← z4, ← z3, ← cells_toList]; simp
  have ht0 : c0.argTypes = #[T, xT] := by rw [← Array.toArray_toList (xs := c0.argTypes), htys]
  simp only [opK] at hk
  split at hk
  · rename_i p n c e1
    rw [e1] at hx
    obtain ⟨m, l1, hk1⟩ := bsi.1 hk
    clear hk
    obtain ⟨new, l2, hk⟩ := bsi.1 hk1
    clear hk1
    unfold appendK at hk
    have hnlf := rowOf_leaf hs hy l2
    obtain ⟨r1, cm, new', hyv, hnl, hnr, rnew, _, _⟩ := rowOf_ok hs hy l1 l2
    split at hk
    · rename_i hm0
      subst hm0
      have hn0 : new = [] := by simpa using hnl
      subst hn0
      have hn0' := hnr.inv_nil
      subst hn0'
      obtain ⟨q, c', hxv⟩ := slice_any hx
      have hle : n ≤ c' := by
        cases p with
        | none => obtain ⟨a, b, h3⟩ := nilslice_inv hx; rw [hxv] at h3; cases h3; omega
        | some p => obtain ⟨q', c'', h3, h4, _⟩ := slice_inv hx; rw [hxv] at h3; cases h3; exact h4
      refine ⟨_, A, hk, .pure hs (v' := .slice q n c') ?_ (hxv ▸ hx)⟩
      rw [exec_call h]
      rw [hyv] at rnew
      have hrun := run_append_none (P := P) (ty := oc.type) hT hxT hi q r1 n c' cm W rnew hle
      simp only [resolve, hc, args_of hargs, Sem.run_bind, Sem.run_pure, Result.andThen_ok, pure_bind, invoke, builtin, ht0]
      simp [hxv, hyv, hrun]
    · rename_i hm0
      split at hk
      · rename_i hbd0
        have hbd := fits_of hm0 hbd0
        obtain ⟨sd, evd⟩ := hs.of_heap (W' := W.drew) rfl rfl rfl rfl
        obtain ⟨r2, cm2, newd, hyv2, _, hnrd0, rnewd, _, _⟩ := rowOf_ok sd (hy.mono evd.le) l1 l2
        rw [hyv] at hyv2; cases hyv2
        have back : Le A ι W.drew A ι W := ⟨fun _ h => h, fun _ _ _ h => .inr h, fun b => by unfold szW; exact Nat.le_refl _, .refl _, Nat.le_refl _, fun _ _ h => h⟩
        have hnrd := hnrd0.mono back
        rw [hyv] at rnewd
        split at hk
        ·
          split at hk
          · rename_i hn0
            subst hn0
            obtain ⟨_, hc0, hxv⟩ := nilslice_inv hx
            refine ⟨_, _, hk, ?_⟩
            have := grow_done (base := base) h hc hargs htys hT hxT hi z2 hzs (A1 := A) hb hs (.refl _ _ _) rfl none r1 0 0 m cm hxv hyv [] new [] newd hnlf LRel.nil hnrd (by simp) hnl (by rfl) rnewd (by omega) (by simpa using hbd)
            simpa using this
          · cases hk
        · rename_i p
          split at hk
          ·
            rename_i s0 hsp
            split at hk
            · rename_i hn0
              subst hn0
              obtain ⟨q, c', hxv, hle, hm⟩ := slice_inv hx
              have hc0 : c' = 0 := by
                rcases hm with ⟨_, h2⟩ | ⟨h2, _⟩
                · exact h2
                · rw [hsp] at h2; cases h2
              subst hc0
              refine ⟨_, _, hk, ?_⟩
              have := grow_done (base := base) h hc hargs htys hT hxT hi z2 hzs (A1 := A) hb hs (.refl _ _ _) rfl (some q) r1 0 0 m cm hxv hyv [] new [] newd hnlf LRel.nil hnrd (by simp) hnl
                (by simp [Builtin.firstCells, loadCells, loadCellsFrom]) rnewd (by omega) (by simpa using hbd)
              simpa using this
            · cases hk
          · rename_i hsp
            split at hk
            · rename_i cs mt hA
              split at hk
              · rename_i hcond
                obtain ⟨hro, hce, hoff⟩ := hcond
                refine ⟨_, _, hk, ?_⟩
                obtain ⟨q, c', hxv, hle, hm⟩ := slice_inv hx
                obtain ⟨s1, le1⟩ := hs.kill p.block (by rw [hA]; simp)
                by_cases hg : n + m ≤ c'
                · rcases hm with ⟨_, h2⟩ | ⟨_, hd | ⟨b, o, hib, rfl, hbnd⟩⟩
                  · omega
                  · rw [hA] at hd; cases hd
                  · exact room_done h hc hargs htys hT hxT hi hs p b o hib cs mt hA hro r1 n c' m cm hxv hyv new new' hnlf hnr hnl hoff (by
                      have := hbnd (by omega)
                      rw [hce] at this; exact this) (hyv ▸ rnew) hg
                ·
                  have hold : ∃ old' : List Value, LRel (A.set p.block .dead) ι W ((cs.drop p.off).take (n * i.size)) old' ∧ (Builtin.firstCells i.size n (.slice (some q) n c')).run P W.drew = .ok old'.toArray W.drew := by
                    by_cases hn0 : n = 0
                    · subst hn0
                      exact ⟨[], by simp; exact LRel.nil, by simp [Builtin.firstCells, loadCells, loadCellsFrom]⟩
                    · have hrow : rowOf A i.size (.slice (some p) n c) = some ((cs.drop p.off).take (n * i.size)) := by
                        simp only [rowOf, if_neg hn0, AMem.rd, hA, if_pos hoff]
                      obtain ⟨q2, c2, old', ho1, ho2, ho3, ho4, _, _⟩ := rowOf_ok sd (hx.mono evd.le) (by rfl) hrow
                      rw [hxv] at ho1; cases ho1
                      exact ⟨old', (ho3.mono back).mono le1, hxv ▸ ho4⟩
                  obtain ⟨old', ho1, ho2⟩ := hold
                  exact grow_done (base := base) h hc hargs htys hT hxT hi z2 hzs (A1 := A.set p.block .dead) hb s1 le1 (by simp) (some q) r1 n c' m cm hxv hyv _ new old' newd (by
                    by_cases hn0 : n * i.size = 0
                    · rw [hn0]; simpa using hnlf
                    · rw [List.all_append, Bool.and_eq_true]
                      refine ⟨?_, hnlf⟩
                      rcases hm with ⟨h2, _⟩ | ⟨_, hd | ⟨b, o, hib, _, _⟩⟩
                      · exact absurd (by rw [h2, Nat.zero_mul]) hn0
                      · rw [hA] at hd; cases hd
                      · have := hs.leaf _ _ _ _ _ hib hA
                        rw [List.all_eq_true] at this ⊢
                        exact fun v hv => this v (List.mem_of_mem_drop (List.mem_of_mem_take hv))) ho1 (hnrd.mono le1)
                    (by simp; omega) hnl ho2 rnewd (by omega) hbd
              · cases hk
            · cases hk
      · cases hk
  · cases hk
end
theorem leafEq_some {lf : Leaf} {x y : Value} {b : Bool} (h : leafEq lf x y = some b) :
    (∃ k0 k m n, lf = .int k0 ∧ x = .int k m ∧ y = .int k n ∧ b = (m == n)) ∨ (∃ m n, lf = .bool ∧ x = .bool m ∧ y = .bool n ∧ b = (m == n)) := by
  unfold leafEq at h
  split at h
  · split at h
    · rename_i hk; subst hk; cases h; exact .inl ⟨_, _, _, _, rfl, rfl, rfl, rfl⟩
    · cases h
  · cases h; exact .inr ⟨_, _, rfl, rfl, rfl, rfl⟩
  · cases h
def AllEq : List Leaf → List Value → List Value → Bool → Prop
  | [], [], [], q => q = true
  | lf :: lfs, x :: xs, y :: ys, q => ∃ b c, leafEq lf x y = some b ∧ AllEq lfs xs ys c ∧ q = (b && c)
  | _, _, _, _ => False
theorem allEq_of : ∀ (lfs : List Leaf) (xs ys : List Value) (q : Bool), leavesEq lfs xs ys = some q → AllEq lfs xs ys q
  | [], xs, ys, q, h => by
    cases xs <;> cases ys <;> simp [leavesEq] at h
    subst h; rfl
  | [lf], xs, ys, q, h => by
    cases xs with
    | nil => simp [leavesEq] at h
    | cons x xs =>
      cases ys with
      | nil => simp [leavesEq] at h
      | cons y ys =>
        cases xs with
        | nil =>
          cases ys with
          | nil =>
            simp [leavesEq] at h
            exact ⟨q, true, h, rfl, by simp⟩
          | cons y' ys => simp [leavesEq] at h
        | cons x' xs => simp [leavesEq] at h
  | lf :: lf' :: lfs, xs, ys, q, h => by
    cases xs with
    | nil => simp [leavesEq] at h
    | cons x xs =>
      cases ys with
      | nil => simp [leavesEq] at h
      | cons y ys =>
        simp only [leavesEq, bsi] at h
        obtain ⟨b, h1, c, h2, h3⟩ := h
        cases h3
        exact ⟨b, c, h1, allEq_of (lf' :: lfs) xs ys c h2, rfl⟩
theorem AllEq.len : ∀ {lfs : List Leaf} {xs ys : List Value} {q : Bool}, AllEq lfs xs ys q → xs.length = lfs.length ∧ ys.length = lfs.length
  | [], [], [], _, _ => ⟨rfl, rfl⟩
  | lf :: lfs, x :: xs, y :: ys, _, ⟨b, c, _, h, _⟩ => by
    have := AllEq.len h
    simp [this.1, this.2]
theorem AllEq.split : ∀ {lfs : List Leaf} {xs ys : List Value} {q : Bool} (n : Nat), AllEq lfs xs ys q → ∃ a b, AllEq (lfs.take n) (xs.take n) (ys.take n) a ∧ AllEq (lfs.drop n) (xs.drop n) (ys.drop n) b ∧ q = (a && b)
  | lfs, xs, ys, q, 0, h => ⟨true, q, by simp [AllEq], by simpa using h, by simp⟩
  | [], [], [], q, n + 1, h => ⟨true, q, by simp [AllEq], by simpa using h, by simp⟩
  | lf :: lfs, x :: xs, y :: ys, q, n + 1, ⟨b, c, h1, h2, h3⟩ => by
    obtain ⟨a', b', k1, k2, k3⟩ := AllEq.split n h2
    exact ⟨b && a', b', ⟨b, a', h1, by simpa using k1, rfl⟩, by simpa using k2, by rw [h3, k3, Bool.and_assoc]⟩
theorem AllEq.flat : ∀ {lfs : List Leaf} {xs ys : List Value} {q : Bool}, AllEq lfs xs ys q → xs.all flatLeaf = true ∧ ys.all flatLeaf = true
  | [], [], [], _, _ => ⟨rfl, rfl⟩
  | lf :: lfs, x :: xs, y :: ys, _, ⟨b, c, h, h2, _⟩ => by
    obtain ⟨g1, g2⟩ := AllEq.flat h2
    rcases leafEq_some h with ⟨_, _, _, _, _, rfl, rfl, _⟩ | ⟨_, _, _, rfl, rfl, _⟩ <;> (simp only [List.all_cons, flatLeaf, Bool.true_and]; exact ⟨g1, g2⟩)
def eqElems (d : Nat) (e : TypeId) (m : Nat) (xs ys : Array Value) : List Nat → Sem Bool
  | [] => pure true
  | i :: l => do let r ← Op.equalIn d e (← part e xs (i * m)) (← part e ys (i * m)); if (!r) = true then pure false else eqElems d e m xs ys l
section
variable {P : Program}
theorem run_equalIn_array (d : Nat) {t e : TypeId} {len n : Nat} (xs ys : Array Value) (ht : P.underlying t = some (.array len e)) (hn : sizeT P e = some n) (W : World) :
    (Op.equalIn (d + 1) t (.agg xs) (.agg ys)).run P W = (eqElems d e n xs ys (List.range' 0 len)).run P W := by
  simp only [Op.equalIn, Sem.run_bind, run_underlying ht, Result.andThen_ok, run_sizeOf hn]
  rw [Std.Legacy.Range.forIn_eq_forIn_range']
  simp only [Std.Legacy.Range.size, Nat.sub_zero, Nat.add_sub_cancel, Nat.div_one]
  generalize List.range' 0 len 1 = l
  induction l generalizing W with
  | nil => simp [eqElems]
  | cons i l ih =>
    rw [eqElems]
    simp only [List.forIn_cons, Sem.run_bind, Sem.run_ite]
    generalize (part e xs (i * n)).run P W = r1
    cases r1 with
    | ok a w1 =>
      simp only [Result.andThen_ok]
      generalize (part e ys (i * n)).run P w1 = r2
      cases r2 with
      | ok b w2 =>
        simp only [Result.andThen_ok]
        generalize (Op.equalIn d e a b).run P w2 = r3
        cases r3 with
        | ok r w3 =>
          cases r
          · simp only [Result.andThen_ok, Bool.not_false, if_true, Sem.run_pure]
          · simp only [Result.andThen_ok, Bool.not_true, Bool.false_eq_true, if_false, Sem.run_pure]
            exact ih w3
        | halt x w3 => simp [Result.andThen]
      | halt x w2 => simp [Result.andThen]
    | halt x w1 => simp [Result.andThen]
def Shaped (P : Program) (t : TypeId) (x : Value) (cx : List Value) : Prop :=
  if isAggT P t then x = .agg cx.toArray else cx = [x]
theorem replicate_flatten_length {α : Type} (n : Nat) (l : List α) : (List.replicate n l).flatten.length = n * l.length := by simp
theorem eqTy_size {d : Nat} {t : TypeId} {l : List Leaf} (h : eqTy P d t = some l) : sizeT P t = some l.length ∧ 0 < l.length ∧ ∃ D, P.underlying t = some D := by
  cases d with
  | zero => simp [eqTy] at h
  | succ d =>
    simp only [eqTy] at h
    split at h
    · rename_i hu; split at h
      · cases h; rename_i h1; exact ⟨h1, by simp, _, hu⟩
      · cases h
    · rename_i hu; split at h
      · cases h; rename_i h1; exact ⟨h1, by simp, _, hu⟩
      · cases h
    · rename_i hu; split at h
      · cases h
      · split at h
        · split at h
          · cases h; rename_i h1; exact ⟨h1.1, h1.2, _, hu⟩
          · cases h
        · cases h
    · rename_i hu; split at h
      · split at h
        · cases h; rename_i h1; exact ⟨by rw [replicate_flatten_length]; exact h1.1, by rw [replicate_flatten_length]; exact h1.2, _, hu⟩
        · cases h
      · cases h
    · cases h
theorem run_part_shaped {t : TypeId} {n off : Nat} {D : TypeDesc} (hD : P.underlying t = some D) (hn : sizeT P t = some n) (h1 : isAggT P t = false → n = 1) (xs : List Value) (hle : off + n ≤ xs.length) (W : World) :
    ∃ x, (part t xs.toArray off).run P W = .ok x W ∧ Shaped P t x ((xs.drop off).take n) := by
  rw [run_part hD hn]
  cases ha : isAggT P t with
  | true =>
    refine ⟨_, by rw [if_pos rfl], ?_⟩
    unfold Shaped
    rw [if_pos ha]
    congr 1
    apply Array.ext'
    rw [extract_toList]
  | false =>
    have hn1 := h1 ha
    subst hn1
    have hlt : off < xs.length := by omega
    refine ⟨xs[off], ?_, ?_⟩
    · simp [hlt]
    · unfold Shaped
      rw [ha]
      simp only [Bool.false_eq_true, if_false]
      rw [List.drop_eq_getElem_cons hlt, List.take_succ_cons, List.take_zero]
theorem eqTy_leaf {d : Nat} {t : TypeId} {l : List Leaf} (h : eqTy P d t = some l) (ha : isAggT P t = false) : (∃ k, l = [.int k] ∧ P.underlying t = some (.int k)) ∨ (l = [.bool] ∧ P.underlying t = some .bool) := by
  cases d with
  | zero => simp [eqTy] at h
  | succ d =>
    simp only [eqTy] at h
    split at h
    · rename_i hu; split at h
      · cases h; exact .inl ⟨_, rfl, hu⟩
      · cases h
    · rename_i hu; split at h
      · cases h; exact .inr ⟨rfl, hu⟩
      · cases h
    · rename_i hu; simp [isAggT, hu] at ha
    · rename_i hu; simp [isAggT, hu] at ha
    · cases h
theorem eqTy_one {d : Nat} {t : TypeId} {l : List Leaf} (h : eqTy P d t = some l) (ha : isAggT P t = false) : l.length = 1 := by
  rcases eqTy_leaf h ha with ⟨k, rfl, _⟩ | ⟨rfl, _⟩ <;> rfl
theorem flatten_drop {α : Type} (l : List α) : ∀ (k n : Nat), k ≤ n → (List.replicate n l).flatten.drop (k * l.length) = (List.replicate (n - k) l).flatten
  | 0, n, _ => by simp
  | k + 1, n, h => by
    obtain ⟨n, rfl⟩ : ∃ m, n = m + 1 := ⟨n - 1, by omega⟩
    rw [List.replicate_succ, List.flatten_cons, Nat.add_mul, Nat.one_mul, Nat.add_comm, ← List.drop_drop, List.drop_left, flatten_drop l k n (by omega)]
    congr 2; omega
theorem equalIn_ok : ∀ (d : Nat) (t : TypeId) (lfs : List Leaf), eqTy P d t = some lfs → ∀ (D : Nat) (x y : Value) (cx cy : List Value) (q : Bool), d ≤ D → Shaped P t x cx → Shaped P t y cy → AllEq lfs cx cy q →
    ∀ W : World, (Op.equalIn D t x y).run P W = .ok q W
  | 0, t, lfs, h, D, x, y, cx, cy, q, hD, hx, hy, he, W => by simp [eqTy] at h
  | d + 1, t, lfs, h, D, x, y, cx, cy, q, hD, hx, hy, he, W => by
    obtain ⟨D, rfl⟩ : ∃ m, D = m + 1 := ⟨D - 1, by omega⟩
    obtain ⟨hcx, hcy⟩ := he.len
    cases ha : isAggT P t with
    | false =>
      unfold Shaped at hx hy
      rw [ha] at hx hy
      simp only [Bool.false_eq_true, if_false] at hx hy
      subst hx; subst hy
      rcases eqTy_leaf h ha with ⟨k, rfl, hu⟩ | ⟨rfl, hu⟩
      · obtain ⟨b, c, e1, e2, e3⟩ := he
        have e2' : c = true := e2
        rcases leafEq_some e1 with ⟨_, k', m, n, _, rfl, rfl, rfl⟩ | ⟨_, _, e, _⟩
        · rw [run_equalIn_int W D t k' k m n hu, e3, e2', Bool.and_true]
        · cases e
      · obtain ⟨b, c, e1, e2, e3⟩ := he
        have e2' : c = true := e2
        rcases leafEq_some e1 with ⟨_, _, _, _, e, _⟩ | ⟨m, n, _, rfl, rfl, rfl⟩
        · cases e
        · rw [run_equalIn_bool' W D t m n hu, e3, e2', Bool.and_true]
    | true =>
      unfold Shaped at hx hy
      rw [if_pos ha] at hx hy
      subst hx; subst hy
      simp only [eqTy] at h
      split at h
      · rename_i hu; simp [isAggT, hu] at ha
      · rename_i hu; simp [isAggT, hu] at ha
      · rename_i fs hu
        split at h
        · cases h
        · rename_i hst
          have hst' : P.stoodInHeld t = false := by simpa using hst
          have hf : P.fieldsOf t = fs := by simp [Program.fieldsOf, hu]
          rw [run_equalIn_struct (P := P) W D t _ _ (by rw [hf]; exact hu) hst', hf]
          split at h
          · rename_i l0 hm
            split at h
            · rename_i hsz
              obtain rfl : l0 = lfs := Option.some.inj h
              clear h
              have hpre : ∀ (l : List Field) (o : List Leaf), l.foldlM (fun (acc : List Leaf) f => if f.name ≠ "_" ∧ f.offset = acc.length then (eqTy P d f.type).map (acc ++ ·) else none) o = some l0 → ∃ r, l0 = o ++ r := by
                intro l
                induction l with
                | nil => intro o h0; simp only [List.foldlM_nil] at h0; cases h0; exact ⟨[], by simp⟩
                | cons f l ih2 =>
                  intro o h0
                  simp only [List.foldlM_cons] at h0
                  obtain ⟨o', k1, k2⟩ := bsi.1 h0
                  split at k1
                  · obtain ⟨fn', k3, k4⟩ := msi.1 k1
                    obtain ⟨r, hr⟩ := ih2 _ k2
                    rw [← k4] at hr
                    exact ⟨fn' ++ r, by rw [hr, List.append_assoc]⟩
                  · cases k1
              have key : ∀ (l : List Field) (acc : List Leaf) (r : Bool), l.foldlM (fun (acc : List Leaf) f => if f.name ≠ "_" ∧ f.offset = acc.length then (eqTy P d f.type).map (acc ++ ·) else none) acc = some l0 →
                  AllEq (l0.drop acc.length) (cx.drop acc.length) (cy.drop acc.length) r → (Op.eqFields D cx.toArray cy.toArray l).run P W = .ok r W := by
                intro l
                induction l with
                | nil =>
                  intro acc r h0 hr
                  simp only [List.foldlM_nil] at h0
                  cases h0
                  rw [List.drop_eq_nil_of_le (Nat.le_refl _), List.drop_eq_nil_of_le (Nat.le_of_eq hcx), List.drop_eq_nil_of_le (Nat.le_of_eq hcy)] at hr
                  have : r = true := hr
                  simp [Op.eqFields, this]
                | cons f l ih =>
                  intro acc r h0 hr
                  simp only [List.foldlM_cons] at h0
                  obtain ⟨off', g1, g2⟩ := bsi.1 h0
                  split at g1
                  · rename_i hc
                    obtain ⟨fl, g3, g4⟩ := msi.1 g1
                    subst g4
                    obtain ⟨z1, z2, Df, z3⟩ := eqTy_size g3
                    obtain ⟨rr, hrr⟩ := hpre _ _ g2
                    have hlen : l0.length = acc.length + fl.length + rr.length := by rw [hrr]; simp; omega
                    obtain ⟨a, b, s1, s2, s3⟩ := hr.split fl.length
                    have hfl : (l0.drop acc.length).take fl.length = fl := by rw [hrr, List.append_assoc, List.drop_left, List.take_left]
                    rw [hfl] at s1
                    rw [List.drop_drop, List.drop_drop, List.drop_drop, ← List.length_append] at s2
                    obtain ⟨xa, p1, p2⟩ := run_part_shaped (P := P) z3 z1 (fun hna => eqTy_one g3 hna) cx (by omega : acc.length + fl.length ≤ cx.length) W
                    obtain ⟨ya, q1, q2⟩ := run_part_shaped (P := P) z3 z1 (fun hna => eqTy_one g3 hna) cy (by omega : acc.length + fl.length ≤ cy.length) W
                    have heq := equalIn_ok d f.type fl g3 D xa ya _ _ a (by omega) p2 q2 s1 W
                    have hrest := ih (acc ++ fl) b g2 s2
                    have hname : f.name ≠ "_" := hc.1
                    rw [Op.eqFields, if_pos hname]
                    rw [← hc.2] at p1 q1
                    simp only [Sem.run_bind, p1, q1, heq, Result.andThen_ok]
                    cases a
                    · simp [s3]
                    · simpa [s3] using hrest
                  · cases g1
              exact key fs.toList [] q hm (by simpa using he)
            · cases h
          · cases h
      · rename_i len e hu
        split at h
        · rename_i l1 hm
          split at h
          · rename_i hsz
            obtain rfl : (List.replicate len l1).flatten = lfs := Option.some.inj h
            clear h
            obtain ⟨z1, z2, De, z3⟩ := eqTy_size hm
            rw [replicate_flatten_length] at hcx hcy
            rw [run_equalIn_array (P := P) D cx.toArray cy.toArray hu z1 W]
            have key : ∀ (k i : Nat) (r : Bool), i + k = len → AllEq ((List.replicate len l1).flatten.drop (i * l1.length)) (cx.drop (i * l1.length)) (cy.drop (i * l1.length)) r →
                (eqElems D e l1.length cx.toArray cy.toArray (List.range' i k)).run P W = .ok r W := by
              intro k
              induction k with
              | zero =>
                intro i r hik hr
                have hil : i = len := by omega
                subst hil
                rw [flatten_drop l1 i i (Nat.le_refl _), List.drop_eq_nil_of_le (Nat.le_of_eq hcx), List.drop_eq_nil_of_le (Nat.le_of_eq hcy)] at hr
                simp at hr
                have : r = true := hr
                simp [eqElems, this]
              | succ k ih =>
                intro i r hik hr
                have hle : (i + 1) * l1.length ≤ len * l1.length := Nat.mul_le_mul_right _ (by omega)
                have hexp : (i + 1) * l1.length = i * l1.length + l1.length := by rw [Nat.add_mul, Nat.one_mul]
                obtain ⟨a, b, s1, s2, s3⟩ := hr.split l1.length
                have hfl : ((List.replicate len l1).flatten.drop (i * l1.length)).take l1.length = l1 := by
                  rw [flatten_drop l1 i len (by omega), show len - i = (len - i - 1) + 1 by omega, List.replicate_succ, List.flatten_cons, List.take_left]
                rw [hfl] at s1
                rw [List.drop_drop, List.drop_drop, List.drop_drop, ← hexp] at s2
                obtain ⟨xa, p1, p2⟩ := run_part_shaped (P := P) z3 z1 (fun hna => eqTy_one hm hna) cx (by omega : i * l1.length + l1.length ≤ cx.length) W
                obtain ⟨ya, q1, q2⟩ := run_part_shaped (P := P) z3 z1 (fun hna => eqTy_one hm hna) cy (by omega : i * l1.length + l1.length ≤ cy.length) W
                have heq := equalIn_ok d e l1 hm D xa ya _ _ a (by omega) p2 q2 s1 W
                have hrest := ih (i + 1) b (by omega) s2
                rw [List.range'_succ, eqElems]
                simp only [Sem.run_bind, p1, q1, heq, Result.andThen_ok]
                cases a
                · simp [s3]
                · simpa [s3] using hrest
            exact key len 0 q (by omega) (by simpa using he)
          · cases h
        · cases h
      · cases h
end
section
variable {P : Program} {base : Nat} {rec : Rec} {oc : Oper} {A : AMem} {ι : Iota} {W : World}
theorem mapTy_inv {t : TypeId} {k kv : IntKind} (h : mapTy P t = some (k, kv)) : ∃ kt et i, P.underlying t = some (.map kt et) ∧ P.underlying kt = some (.int k) ∧ P.info? et = some i ∧ i.zero = some (.int kv 0) := by
  unfold mapTy at h
  split at h
  · rename_i kt et hT
    split at h
    · rename_i k1 kv1 h1 h2
      cases h
      obtain ⟨i, h3, h4⟩ := bsi.1 h2
      exact ⟨kt, et, i, hT, h1, h3, h4⟩
    · cases h
  · cases h
def mix (n : Int) : List (Int × Int) → Option (Nat × Int)
  | [] => none
  | e :: r => if n = e.1 then some (0, e.2) else (mix n r).map fun p => (p.1 + 1, p.2)
def mpv (k kv : IntKind) (e : Int × Int) : Value × Value := (.int k e.1, .int kv e.2)
def ekv (e : MapEntry) : Value × Value := (e.key, e.val)
theorem findNow_mix {k kv : IntKind} {n : Int} : ∀ (l : List MapEntry) (es : List (Int × Int)) (i : Nat), l.map ekv = es.map (mpv k kv) →
    Instr.findNow (.int k) (.int k n) l i = some ((mix n es).map fun p => (i + p.1, .int kv p.2))
  | [], [], i, _ => rfl
  | [], _ :: _, i, h => by simp at h
  | _ :: _, [], i, h => by simp at h
  | a :: l, e :: es, i, h => by
    simp only [List.map_cons, List.cons.injEq, ekv, mpv, Prod.mk.injEq] at h
    obtain ⟨⟨h1, h2⟩, h3⟩ := h
    simp only [Instr.findNow, h1, h2, Instr.sameNow, if_true, mix]
    by_cases c : n = e.1
    · rw [if_pos c, show (n == e.1) = true by simpa using c]; simp
    · rw [if_neg c, show (n == e.1) = false by simpa using c]
      have := findNow_mix (k := k) (kv := kv) (n := n) l es (i + 1) h3
      simp only [this]
      cases mix n es with
      | none => rfl
      | some p => simp only [Option.map_some]; congr 3; omega
theorem mget_mix (n : Int) : ∀ es : List (Int × Int), mget n es = (mix n es).map (·.2)
  | [] => rfl
  | e :: r => by
    simp only [mget, mix, mget_mix n r]
    split
    · rfl
    · cases mix n r <;> rfl
theorem mset_mix (n v : Int) : ∀ es : List (Int × Int), (∀ j x, mix n es = some (j, x) → es[j]? = some (n, x) ∧ mset n v es = es.set j (n, v)) ∧ (mix n es = none → mset n v es = es ++ [(n, v)])
  | [] => ⟨fun j x h => by simp [mix] at h, fun _ => rfl⟩
  | e :: r => by
    obtain ⟨i1, i2⟩ := mset_mix n v r
    constructor
    · intro j x h
      simp only [mix] at h
      simp only [mset]
      by_cases c : n = e.1
      · rw [if_pos c] at h ⊢
        cases h
        exact ⟨by rw [c]; rfl, by rw [c]; rfl⟩
      · rw [if_neg c] at h ⊢
        obtain ⟨p, h1, h2⟩ := msi.1 h
        cases h2
        obtain ⟨j1, j2⟩ := i1 p.1 p.2 h1
        exact ⟨by simpa using j1, by rw [j2]; rfl⟩
    · intro h
      simp only [mix] at h
      simp only [mset]
      by_cases c : n = e.1
      · rw [if_pos c] at h; cases h
      · rw [if_neg c] at h ⊢
        rw [i2 (by simpa using h)]; rfl
theorem mdel_mix (n : Int) : ∀ es : List (Int × Int), (∀ j x, mix n es = some (j, x) → j < es.length ∧ mdel n es = es.eraseIdx j) ∧ (mix n es = none → mdel n es = es)
  | [] => ⟨fun j x h => by simp [mix] at h, fun _ => rfl⟩
  | e :: r => by
    obtain ⟨i1, i2⟩ := mdel_mix n r
    constructor
    · intro j x h
      simp only [mix] at h
      simp only [mdel]
      by_cases c : n = e.1
      · rw [if_pos c] at h ⊢
        cases h
        exact ⟨by simp, rfl⟩
      · rw [if_neg c] at h ⊢
        obtain ⟨p, h1, h2⟩ := msi.1 h
        cases h2
        obtain ⟨j1, j2⟩ := i1 p.1 p.2 h1
        exact ⟨by simpa using j1, by rw [j2]; rfl⟩
    · intro h
      simp only [mix] at h
      simp only [mdel]
      by_cases c : n = e.1
      · rw [if_pos c] at h; cases h
      · rw [if_neg c] at h ⊢
        rw [i2 (by simpa using h)]
theorem erase_map {X Y : Type} (f : X → Y) : ∀ (l : List X) (j : Nat), (l.eraseIdx j).map f = (l.map f).eraseIdx j
  | [], j => rfl
  | x :: l, 0 => rfl
  | x :: l, j + 1 => by simp only [List.eraseIdx_cons_succ, List.map_cons, erase_map f l j]
theorem run_getMap {r : Nat} {es : Array MapEntry} {c : Nat} (h : W.heap[r]? = some (.map es c)) : (getObj r).run P W = .ok (.map es c) W := by simp [getObj, Sem.run, h]
theorem run_setMap {r : Nat} {es : Array MapEntry} {c : Nat} (h : W.heap[r]? = some (.map es c)) (o : Obj) : (setObj r o).run P W = .ok () (W.putObj r o) := by
  simp [setObj, Sem.run, h, World.putObj]
theorem run_zeroI {t : TypeId} {i : TypeInfo} {z : Value} (h : P.info? t = some i) (hz : i.zero = some z) : (zeroValue t).run P W = .ok z W := by
  simp [zeroValue, typeInfo, h, hz]
theorem run_checkInt {kt : TypeId} {k : IntKind} (h : P.underlying kt = some (.int k)) (b : Bool) (n : Int) : (Instr.checkKey b 10000 kt (.int k n)).run P W = .ok () W := by
  change (Instr.checkKey b (9999 + 1) kt (.int k n)).run P W = _
  unfold Instr.checkKey
  simp [run_underlying h]
theorem run_findMix {kt : TypeId} {k kv : IntKind} (h : P.underlying kt = some (.int k)) {n : Int} {l : Array MapEntry} {es : List (Int × Int)} (hl : l.toList.map ekv = es.map (mpv k kv)) :
    (Instr.findKey kt (.int k n) l.toList).run P W = .ok ((mix n es).map fun p => (p.1, .int kv p.2)) W := by
  have := findNow_mix (n := n) l.toList es 0 hl
  simp only [Nat.zero_add] at this
  simp [Instr.findKey, run_underlying h, this]
theorem run_stays (k : IntKind) (n : Int) : (Instr.keyThatStays (.int k n) (.int k n)).run P W = .ok (.int k n) W := by
  simp [Instr.keyThatStays, Instr.sameBits]
theorem map_inv {l : Nat} {v' : Value} (h : VRel A ι W (.map (some l)) v') : ∃ l', v' = .map (some l') ∧ (A[l]? = some .dead ∨ ι l = some (l', 0)) := by
  cases h with
  | flat _ hf => simp [flatLeaf] at hf
  | map l l' hi => exact ⟨l', rfl, .inr hi⟩
  | mapDead l l' h => exact ⟨l', rfl, .inl h⟩
theorem Sim.setMap (h : Sim P base A ι W) {a b o : Nat} {k kv : IntKind} {es es2 : List (Int × Int)} {es' es2' : Array MapEntry} {c c2 : Nat} (hi : ι a = some (b, o)) (hA : A[a]? = some (.map k kv es)) (hW : W.heap[b]? = some (.map es' c))
    (hrel : es2'.toList.map ekv = es2.map (mpv k kv)) :
    Sim P base (A.set a (.map k kv es2)) ι (W.putObj b (.map es2' c2)) ∧ Ev base A ι W (A.set a (.map k kv es2)) ι (W.putObj b (.map es2' c2)) := by
  have halt := h.lt hi
  have hblt : b < W.heap.size := (Array.getElem?_eq_some_iff.1 hW).1
  obtain ⟨_, hbase⟩ := h.map a b o k kv es hi hA
  have hget : ∀ a' : Nat, a' ≠ a → (A.set a (AObj.map k kv es2))[a']? = A[a']? := fun a' e => by rw [List.getElem?_set, if_neg (Ne.symm e)]
  have hself : (A.set a (AObj.map k kv es2))[a]? = some (.map k kv es2) := by rw [List.getElem?_set, if_pos rfl, if_pos halt]
  have hoth : ∀ x, x ≠ b → (W.putObj b (.map es2' c2)).heap[x]? = W.heap[x]? := fun x hx => World.putObj_heap_other hx
  have hsame := World.putObj_heap_same (o := .map es2' c2) hblt
  have hsz : ∀ x, szW W x ≤ szW (W.putObj b (.map es2' c2)) x := fun x => by
    unfold szW
    by_cases e : x = b
    · subst e; rw [hW]; exact Nat.zero_le _
    · rw [hoth x e]; exact Nat.le_refl _
  have hle : Le A ι W (A.set a (.map k kv es2)) ι (W.putObj b (.map es2' c2)) := Le.put a b o hget (fun _ _ => rfl) hi ⟨by rw [hA]; simp, .inr hi⟩ (by simp) hsz (fun cs0 m0 e => by rw [hA] at e; cases e)
  refine ⟨h.put a b o _ hget hself (fun _ _ => rfl) hi hle (fun a' o' hne hi' => h.sep a a' b o o' (Ne.symm hne) hi hi' (.inr (.inr ⟨k, kv, es, hA⟩))) (fun x hx _ => hoth x hx) (by simp) (fun cs m e => by cases e) (fun l0 e => by cases e) (fun cs m e => by cases e) (fun k1 kv1 es1 e => ?_), ?_⟩
  · cases e
    exact ⟨⟨es2', c2, hsame, hrel⟩, hbase⟩
  · refine ⟨hle, ⟨rfl, rfl, rfl, by simp, fun x hx => hoth x (by omega)⟩, fun r ds e => ?_, fun r lr e => ?_⟩
    · by_cases er : r = b
      · subst er; rw [hW] at e; cases e
      · rw [hoth r er]; exact e
    · by_cases er : r = b
      · subst er; rw [hW] at e; cases e
      · exact ⟨lr, by rw [hoth r er]; exact e⟩
theorem Sim.newMap (h : Sim P base A ι W) (hb : base ≤ W.heap.size) (k kv : IntKind) :
    Sim P base (A ++ [.map k kv []]) (upd ι A.length W.heap.size 0) (W.alloc (.map #[] 0)) ∧ Ev base A ι W (A ++ [.map k kv []]) (upd ι A.length W.heap.size 0) (W.alloc (.map #[] 0)) := by
  have hx : (A ++ [AObj.map k kv []])[A.length]? = some (.map k kv []) := by simp
  have hA : ∀ a : Nat, a ≠ A.length → (A ++ [AObj.map k kv []])[a]? = A[a]? := fun a ha => by
    by_cases hlt : a < A.length
    · rw [List.getElem?_append_left hlt]
    · rw [List.getElem?_eq_none (by simp; omega), List.getElem?_eq_none (by omega)]
  have hnd : A[A.length]? = none := by simp
  have hle : Le A ι W (A ++ [.map k kv []]) (upd ι A.length W.heap.size 0) (W.alloc (.map #[] 0)) :=
    Le.put A.length W.heap.size 0 hA (upd_other _ _ _) (upd_same _ _ _) ⟨by rw [hnd]; simp, .inl ⟨h.fresh, Nat.le_refl _⟩⟩ (by simp) (szW_alloc _) (fun cs m e => by rw [hnd] at e; cases e)
  obtain ⟨e1, e2, e3⟩ := Ev.alloc_w (W := W) hb (.map #[] 0)
  refine ⟨h.put A.length W.heap.size 0 (.map k kv []) hA hx (upd_other _ _ _) (upd_same _ _ _) hle (fun a o _ hi => ?_) (fun b _ hlt => Below.heap_alloc _ _ _ hlt) (by simp) (fun cs m e => by cases e) (fun l hl => by cases hl) (fun cs0 m0 e => by cases e) (fun k1 kv1 es1 e => ?_), ⟨hle, e1, e2, e3⟩⟩
  · by_cases hd : A[a]? = some .dead
    · exact hd
    · exact absurd (h.inW hi hd) (Nat.lt_irrefl _)
  · cases e
    exact ⟨⟨#[], 0, heap_alloc_self _, rfl⟩, hb⟩
theorem mp_in (hs : Sim P base A ι W) {m : Value} {m' : Value} (hm : VRel A ι W m m') {k kv : IntKind} {r : Option Nat} (hr : mapOf? (some m) = some r) {es : List (Int × Int)} (hmp : A.mp k kv r = some es) :
    ∃ a b es' c, r = some a ∧ m' = .map (some b) ∧ ι a = some (b, 0) ∧ A[a]? = some (.map k kv es) ∧ W.heap[b]? = some (.map es' c) ∧ es'.toList.map ekv = es.map (mpv k kv) := by
  obtain ⟨a, rfl, hA⟩ : ∃ a, r = some a ∧ A[a]? = some (.map k kv es) := by
    unfold AMem.mp at hmp
    split at hmp
    · rename_i b
      split at hmp
      · rename_i k' kv' es' hA
        split at hmp
        · rename_i hc
          obtain ⟨rfl, rfl⟩ := hc
          cases hmp
          exact ⟨b, rfl, hA⟩
        · cases hmp
      · cases hmp
    · cases hmp
  have hm1 : m = .map (some a) := by
    unfold mapOf? at hr
    split at hr
    · rename_i r' e; cases hr; cases e; rfl
    · cases hr
  subst hm1
  obtain ⟨b, rfl, hd⟩ := map_inv hm
  have hi : ι a = some (b, 0) := by
    rcases hd with hd | hd
    · rw [hA] at hd; cases hd
    · exact hd
  obtain ⟨⟨es', c, h1, h2⟩, _⟩ := hs.map a b 0 k kv es hi hA
  exact ⟨a, b, es', c, rfl, rfl, hi, hA, h1, h2⟩
theorem intK_inv {k : IntKind} {v : Value} {n : Int} (h : intOf? k (some v) = some n) : v = .int k n := by
  unfold intOf? at h
  split at h
  · rename_i k' n' e
    split at h
    · rename_i hk; cases h; cases e; rw [hk]
    · cases h
  · cases h
theorem make_ok {t : TypeId} {k kv : IntKind} {a b c : Operand} (h : oc.op = .makeMap t none) : OpOk P base rec oc (.map .make k kv a b c) := by
  intro tt A ι W act K r hs ht hb hk
  obtain ⟨k1, k2⟩ := hs.newMap hb k kv
  refine ⟨_, _, hk, .value (.map (some W.heap.size)), .map (some W.heap.size), _, _, ?_, .inl rfl, k1, k2, .map _ _ (upd_same _ _ _)⟩
  simp [execOp, h, Instr.makeMap]
theorem look_ok {t : TypeId} {k kv : IntKind} {ok : Bool} {m i c : Operand} (h : oc.op = .lookup t m i ok) (hT : mapTy P t = some (k, kv)) : OpOk P base rec oc (.map (.look ok) k kv m i c) := by
  intro tt A ι W act K r hs ht hb hk
  have hm := ev_rel ht m
  have hi := ev_rel ht i
  obtain ⟨kt, et, info, q1, q2, q3, q4⟩ := mapTy_inv hT
  simp only [opK, mapK] at hk
  obtain ⟨mr, e1, hk1⟩ := bsi.1 hk
  clear hk
  obtain ⟨n, e2, hk2⟩ := bsi.1 hk1
  clear hk1
  obtain ⟨es, e3, hk⟩ := bsi.1 hk2
  clear hk2
  rw [intK_inv e2] at hi
  have hiv := int_inv hi
  obtain ⟨a, b, es', cl, rfl, hmv, hia, hA, hW, hl⟩ := mp_in hs hm e1 e3
  have hrun : (execOp act.eval oc).run P W = .ok (.value (if ok then .tuple #[.int kv ((mget n es).getD 0), .bool (mget n es).isSome] else .int kv ((mget n es).getD 0))) W := by
    have hz := run_zeroI (W := W) q3 q4
    have hf := run_findMix (W := W) (kv := kv) q2 (n := n) hl
    simp only [execOp, h, Instr.lookup, hmv, hiv]
    simp only [Sem.run_bind, run_underlying q1, Result.andThen_ok, run_getMap hW, Sem.run_pure, run_checkInt q2, hf]
    rw [mget_mix]
    cases mix n es with
    | none => simp only [Option.map_none, Sem.run_bind, hz, Result.andThen_ok, Sem.run_pure]; cases ok <;> rfl
    | some p => simp only [Option.map_some, Sem.run_bind, Result.andThen_ok, Sem.run_pure]; cases ok <;> rfl
  cases ok with
  | true =>
    rw [if_pos rfl] at hk hrun
    refine ⟨_, A, hk, .pure hs hrun (.tuple _ _ rfl fun j v v' hv hv' => ?_)⟩
    rw [hv] at hv'
    cases hv'
    match j with
    | 0 => simp at hv; subst hv; exact .flat _ rfl
    | 1 => simp at hv; subst hv; exact .flat _ rfl
    | j + 2 => simp at hv
  | false =>
    rw [if_neg (by simp)] at hk hrun
    exact ⟨_, A, hk, .pure hs hrun (.flat _ rfl)⟩
theorem upd_ok {t : TypeId} {k kv : IntKind} {m i v : Operand} (h : oc.op = .mapUpdate t m i v) (hT : mapTy P t = some (k, kv)) : OpOk P base rec oc (.map .upd k kv m i v) := by
  intro tt A ι W act K r hs ht hb hk
  have hm := ev_rel ht m
  have hi := ev_rel ht i
  have hv := ev_rel ht v
  obtain ⟨kt, et, info, q1, q2, q3, q4⟩ := mapTy_inv hT
  simp only [opK, mapK] at hk
  obtain ⟨mr, e1, hk1⟩ := bsi.1 hk
  clear hk
  obtain ⟨n, e2, hk2⟩ := bsi.1 hk1
  clear hk1
  obtain ⟨x, e4, hk3⟩ := bsi.1 hk2
  clear hk2
  obtain ⟨es, e3, hk⟩ := bsi.1 hk3
  clear hk3
  rw [intK_inv e2] at hi
  rw [intK_inv e4] at hv
  have hiv := int_inv hi
  have hvv := int_inv hv
  obtain ⟨a, b, es', cl, rfl, hmv, hia, hA, hW, hl⟩ := mp_in hs hm e1 e3
  have hf := run_findMix (W := W) (kv := kv) q2 (n := n) hl
  obtain ⟨ms, mn⟩ := mset_mix n x es
  have hlen : es'.toList.length = es.length := by have := congrArg List.length hl; simpa using this
  cases hmix : mix n es with
  | none =>
    have hl2 : (es'.push { key := .int k n, val := .int kv x, born := cl }).toList.map ekv = (mset n x es).map (mpv k kv) := by
      rw [mn hmix, Array.toList_push, List.map_append, List.map_append, hl]; rfl
    obtain ⟨s2, ev2⟩ := hs.setMap (c2 := cl + 1) hia hA hW hl2
    refine ⟨_, _, hk, .skip, undef, _, _, ?_, .inr ⟨rfl, rfl⟩, s2, ev2, .undef'⟩
    simp only [execOp, h, Instr.mapUpdate, hmv, hiv, hvv]
    simp only [Sem.run_bind, run_underlying q1, Result.andThen_ok, run_getMap hW, Sem.run_pure, run_checkInt q2, hf, hmix, Option.map_none, run_setMap hW]
  | some p =>
    obtain ⟨j, y⟩ := p
    obtain ⟨m1, m2⟩ := ms j y hmix
    have hjl : j < es.length := (ges.1 m1).1
    have hej : ∃ e, es'[j]? = some e ∧ e.key = .int k n := by
      have h1 := congrArg (fun l : List (Value × Value) => l[j]?) hl
      simp only [List.getElem?_map, m1, Option.map_some] at h1
      obtain ⟨e, h2, h3⟩ := msi.1 h1
      refine ⟨e, by rw [← Array.getElem?_toList]; exact h2, ?_⟩
      exact congrArg Prod.fst h3
    obtain ⟨e, he1, he2⟩ := hej
    have hl2 : (es'.modify j fun e => { e with key := .int k n, val := .int kv x }).toList.map ekv = (mset n x es).map (mpv k kv) := by
      rw [m2]
      refine List.ext_getElem? fun g => ?_
      have h1 := congrArg (fun l : List (Value × Value) => l[g]?) hl
      simp only [List.getElem?_map] at h1
      rw [Array.toList_modify, List.getElem?_map, List.getElem?_map, List.getElem?_modify, List.getElem?_set]
      by_cases eg : j = g
      · subst eg
        rw [Array.getElem?_toList, he1, if_pos rfl, if_pos hjl]
        simp [ekv, mpv]
      · rw [if_neg eg, ← h1]
        cases es'.toList[g]? with
        | none => rfl
        | some z => simp [eg]
    obtain ⟨s2, ev2⟩ := hs.setMap (c2 := cl) hia hA hW hl2
    refine ⟨_, _, hk, .skip, undef, _, _, ?_, .inr ⟨rfl, rfl⟩, s2, ev2, .undef'⟩
    simp only [execOp, h, Instr.mapUpdate, hmv, hiv, hvv]
    simp only [Sem.run_bind, run_underlying q1, Result.andThen_ok, run_getMap hW, Sem.run_pure, run_checkInt q2, hf, hmix, Option.map_some, he1, Option.getD_some, he2, run_stays, run_setMap hW]
theorem del_ok {t : TypeId} {k kv : IntKind} {c0 : Call} {m i v : Operand} (h : oc.op = .call c0) (hc : c0.callee = .builtin .delete) (hargs : c0.args.toList = [m, i]) (hty : c0.argTypes[0]? = some t) (hT : mapTy P t = some (k, kv)) : OpOk P base rec oc (.map .del k kv m i v) := by
  intro tt A ι W act K r hs ht hb hk
  have hm := ev_rel ht m
  have hi := ev_rel ht i
  obtain ⟨kt, et, info, q1, q2, q3, q4⟩ := mapTy_inv hT
  have hex : (execOp act.eval oc).run P W = ((Builtin.delete_ c0.argTypes oc.type #[act.eval m, act.eval i]).run P W).andThen fun v w => .ok (.value v) w := by
    rw [exec_call h]
    simp [resolve, hc, args_of hargs, invoke, builtin]
  simp only [opK, mapK] at hk
  obtain ⟨mr, e1, hk1⟩ := bsi.1 hk
  clear hk
  obtain ⟨n, e2, hk2⟩ := bsi.1 hk1
  clear hk1
  obtain ⟨es, e3, hk⟩ := bsi.1 hk2
  clear hk2
  rw [intK_inv e2] at hi
  have hiv := int_inv hi
  obtain ⟨a, b, es', cl, rfl, hmv, hia, hA, hW, hl⟩ := mp_in hs hm e1 e3
  have hf := run_findMix (W := W) (kv := kv) q2 (n := n) hl
  obtain ⟨ms, mn⟩ := mdel_mix n es
  have hlen : es'.toList.length = es.length := by have := congrArg List.length hl; simpa using this
  cases hmix : mix n es with
  | none =>
    have hl2 : es'.toList.map ekv = (mdel n es).map (mpv k kv) := by rw [mn hmix]; exact hl
    obtain ⟨s2, ev2⟩ := hs.setMap (c2 := cl) hia hA hW hl2
    refine ⟨_, _, hk, .value (.tuple #[]), undef, _, _, ?_, .inl rfl, s2, ev2, .undef'⟩
    rw [hex]
    simp only [Builtin.delete_, hmv, hiv, hty, List.getElem?_toArray, List.getElem?_cons_zero, List.getElem?_cons_succ]
    simp only [Sem.run_bind, run_underlying q1, Result.andThen_ok, run_getMap hW, Sem.run_pure, run_checkInt q2, hf, hmix, Option.map_none, run_setMap hW]
  | some p =>
    obtain ⟨j, y⟩ := p
    obtain ⟨m1, m2⟩ := ms j y hmix
    have hl2 : (es'.eraseIdxIfInBounds j).toList.map ekv = (mdel n es).map (mpv k kv) := by
      rw [m2, Array.toList_eraseIdxIfInBounds, erase_map, hl, erase_map]
    obtain ⟨s2, ev2⟩ := hs.setMap (c2 := cl) hia hA hW hl2
    refine ⟨_, _, hk, .value (.tuple #[]), undef, _, _, ?_, .inl rfl, s2, ev2, .undef'⟩
    rw [hex]
    simp only [Builtin.delete_, hmv, hiv, hty, List.getElem?_toArray, List.getElem?_cons_zero, List.getElem?_cons_succ]
    simp only [Sem.run_bind, run_underlying q1, Result.andThen_ok, run_getMap hW, Sem.run_pure, run_checkInt q2, hf, hmix, Option.map_some, run_setMap hW]
end
section
variable {P : Program} {base : Nat} {rec : Rec} {oc : Oper}
theorem eqAgg_ok {o : BinOp} {xT yT : TypeId} {x y : Operand} {lfs : List Leaf} (hT : eqTy P 20 xT = some lfs) (hagg : isAggT P xT = true) (hg : P.eqGuardType P.depth xT = false) (ho : o = .eql ∨ o = .neq)
    (h : oc.op = .binOp o xT x y yT) : OpOk P base rec oc (.eqAgg lfs (o = .neq) x y) := by
  intro tt A ι W act K r hs ht hb hk
  have hx := ev_rel ht x
  have hy := ev_rel ht y
  simp only [opK] at hk
  split at hk
  · rename_i a b e1 e2
    rw [e1] at hx; rw [e2] at hy
    obtain ⟨q, h1, h2⟩ := bsi.1 hk
    have hae := allEq_of _ _ _ _ h1
    obtain ⟨f1, f2⟩ := hae.flat
    have hx' := flatV_eq hx f1
    have hy' := flatV_eq hy f2
    have hrun := equalIn_ok 20 xT lfs hT 10000 (.agg a) (.agg b) a.toList b.toList q (by omega) (by unfold Shaped; rw [if_pos hagg]) (by unfold Shaped; rw [if_pos hagg]) hae W
    have hgd := run_eqGuard_agg (P := P) W o xT x y a b hg
    refine ⟨_, A, h2, .pure hs (v' := .bool (if o = .neq then !q else q)) ?_ (by by_cases e : o = .neq <;> simp [e] <;> exact .flat _ rfl)⟩
    simp only [execOp, h, ← hx', ← hy']
    rw [Sem.run_bind, Sem.run_bind, hgd]
    simp only [Result.andThen_ok]
    rcases ho with rfl | rfl
    · rw [run_eql_struct, hrun]; rfl
    · rw [run_neq_struct, hrun]; rfl
  · cases hk
theorem copy_ok {T xT e : TypeId} {n : Nat} {c0 : Call} (h : oc.op = .call c0) (hc : c0.callee = .builtin .copy) {x y : Operand} (hargs : c0.args.toList = [x, y]) (htys : c0.argTypes.toList = [T, xT])
    (hT : P.underlying T = some (.slice e)) (hn : sizeT P e = some n) : OpOk P base rec oc (.copy n x y) := by
  intro tt A ι W act K r hs ht hb hk
  have hx := ev_rel ht x
  have hy := ev_rel ht y
  have ht0 : c0.argTypes = #[T, xT] := by rw [← Array.toArray_toList (xs := c0.argTypes), htys]
  have hex : (execOp act.eval oc).run P W = ((Builtin.copy_ #[T, xT] oc.type #[act.eval x, act.eval y]).run P W).andThen fun v w => .ok (.value v) w := by
    rw [exec_call h]
    simp [resolve, hc, args_of hargs, invoke, builtin, ht0]
  simp only [opK] at hk
  split at hk
  · rename_i p ln c e1
    rw [e1] at hx
    obtain ⟨m, l1, hk1⟩ := bsi.1 hk
    clear hk
    obtain ⟨row, l2, hk⟩ := bsi.1 hk1
    clear hk1
    unfold copyK at hk
    have hrl := rowOf_leaf hs hy l2
    obtain ⟨q, cm, row', hyv, hnl, hnr, _, hcells, hnone⟩ := rowOf_ok hs hy l1 l2
    split at hk
    · rename_i h0
      obtain ⟨qd, c', hxv⟩ := slice_any hx
      refine ⟨_, A, hk, .pure hs (v' := .int .i64 0) ?_ (.flat _ rfl)⟩
      rw [hex, hxv, hyv]
      have hf : (Builtin.firstCells n 0 (.slice q m cm)).run P W = .ok #[] W := by
        cases q with
        | none => rfl
        | some a => simp [Builtin.firstCells, loadCells, loadCellsFrom]
      have h0' : Nat.min m ln = 0 := h0
      cases qd <;> simp [Builtin.copy_, run_underlying hT, Builtin.lenOf, h0', run_sizeOf hn, hf, storeCells, goInt]
    · rename_i h0
      split at hk
      · rename_i p
        obtain ⟨A', k1, k2⟩ := bsi.1 hk
        obtain ⟨qd, c', hxv, hle, hm⟩ := slice_inv hx
        obtain ⟨cs, mt, hA, _⟩ := wr_inv k1
        have hln : ¬ ln = 0 := fun e => h0 (by rw [e]; simp)
        rcases hm with ⟨h1, _⟩ | ⟨hsp, hd | ⟨b, o, hib, rfl, _⟩⟩
        · exact absurd h1 hln
        · rw [hA] at hd; cases hd
        · have htk := hnr.take (Nat.min m ln * n)
          have hlk : (row.take (Nat.min m ln * n)).all leafV = true := by
            rw [List.all_eq_true] at hrl ⊢
            exact fun v hv => hrl v (List.mem_of_mem_take hv)
          obtain ⟨W', s1, s2, s3⟩ := hs.write hib k1 htk hlk
          refine ⟨_, A', k2, _, .int .i64 (Nat.min m ln), W', ι, ?_, .inl rfl, s2, s3, .flat _ rfl⟩
          rw [hex, hxv, hyv]
          cases q with
          | none => exact absurd (by rw [hnone rfl]; simp) h0
          | some a =>
            have hlen : (row'.take (Nat.min m ln * n)).length = Nat.min m ln * n := by
              rw [List.length_take, ← hnr.1, hnl]
              exact Nat.min_eq_left (Nat.mul_le_mul_right _ (Nat.min_le_left _ _))
            have hl := run_loadCells_list (P := P) W a (row'.take (Nat.min m ln * n)) (fun j v e => by
              rw [List.getElem?_take] at e
              split at e
              · exact hcells a rfl j v e
              · cases e)
            rw [hlen] at hl
            simp [Builtin.copy_, run_underlying hT, Builtin.lenOf, run_sizeOf hn, Builtin.firstCells, hl, s1, goInt]
      · cases hk
  · cases hk
def notCall : AOp → Bool
  | .call _ _ _ _ _ => false
  | _ => true
theorem news_ok {op : AOp} (h : compOp P oc = some op) (hk : (∃ z, op = .alloc z) ∨ (∃ x, op = .box x) ∨ (∃ a b z l c, op = .makeSlice a b z l c) ∨ (∃ a b z l, op = .buildSlice a b z l)) : NewsOk P oc op := by
  obtain ⟨dst, o, ty, pos, after, guard⟩ := oc
  have hop : ∀ (o' : Op), (({ dst, op := o, type := ty, pos, after, guard } : Oper).op = o') = (o = o') := fun _ => rfl
  cases o with
  | alloc e =>
    simp only [compOp] at h
    obtain ⟨z, h1, h2⟩ := msi.1 h
    subst h2
    exact alloc_new rfl h1
  | box e x =>
    simp only [compOp] at h
    cases h
    exact box_new rfl
  | makeSlice T l c =>
    simp only [compOp] at h
    split at h
    · rename_i e hT
      obtain ⟨z, h1, h2⟩ := bsi.1 h
      obtain ⟨i, h3, h4⟩ := bsi.1 h2
      split at h4
      · rename_i hp
        cases h4
        exact makeSlice_new rfl hT h1 h3 hp
      · cases h4
    · cases h
  | buildSlice T len ps =>
    simp only [compOp] at h
    split at h
    · rename_i e hT
      obtain ⟨z, h1, h2⟩ := bsi.1 h
      obtain ⟨n, h3, h4⟩ := bsi.1 h2
      split at h4
      · rename_i hp
        obtain ⟨qs, h5, h6⟩ := msi.1 h4
        subst h6
        exact buildSlice_new rfl hT h3 h1 hp.1 hp.2 h5
      · cases h4
    · cases h
  | _ =>
    exfalso
    rcases hk with ⟨z, rfl⟩ | ⟨x, rfl⟩ | ⟨a, b, z, l, c, rfl⟩ | ⟨a, b, z, l, rfl⟩ <;> simp only [compOp, nilCmp] at h <;> (repeat' split at h) <;> simp_all [bsi, msi]
theorem op_ok {op : AOp} (h : compOp P oc = some op) (hk : notCall op = true) : OpOk P base rec oc op := by
  obtain ⟨dst, o, ty, pos, after, guard⟩ := oc
  cases o with
  | move x => cases h; exact mv_ok (.inl rfl)
  | assign x => cases h; exact mv_ok (.inr rfl)
  | pick c a b => cases h; exact pick_ok rfl
  | alloc e =>
    have h' := h
    simp only [compOp] at h'
    obtain ⟨z, h1, h2⟩ := msi.1 h'
    subst h2
    exact new_ok (alloc_new rfl h1) (fun _ _ _ => rfl)
  | box e x => cases h; exact new_ok (box_new rfl) (fun _ _ _ => rfl)
  | build T ps =>
    simp only [compOp] at h
    split at h
    · rename_i fs hT
      split at h
      · rename_i hall
        obtain ⟨z, h1, h2⟩ := bsi.1 h
        obtain ⟨qs, h5, h6⟩ := msi.1 h2
        subst h6
        exact build_struct_ok rfl hT hall h1 h5
      · cases h
    · rename_i len e hT
      obtain ⟨z, h1, h2⟩ := bsi.1 h
      obtain ⟨n, h3, h4⟩ := bsi.1 h2
      obtain ⟨qs, h5, h6⟩ := msi.1 h4
      subst h6
      exact build_array_ok rfl hT h3 h1 h5
    · cases h
  | buildSlice T len ps =>
    have h' := h
    simp only [compOp] at h'
    split at h'
    · rename_i e hT
      obtain ⟨z, h1, h2⟩ := bsi.1 h'
      obtain ⟨n, h3, h4⟩ := bsi.1 h2
      split at h4
      · rename_i hp
        obtain ⟨qs, h5, h6⟩ := msi.1 h4
        subst h6
        exact new_ok (buildSlice_new rfl hT h3 h1 hp.1 hp.2 h5) (fun _ _ _ => rfl)
      · cases h4
    · cases h'
  | makeSlice T l c =>
    simp only [compOp] at h
    split at h
    · rename_i e hT
      obtain ⟨z, h1, h2⟩ := bsi.1 h
      obtain ⟨i, h3, h4⟩ := bsi.1 h2
      split at h4
      · rename_i hp
        cases h4
        exact new_ok (makeSlice_new rfl hT h1 h3 hp) (fun _ _ _ => rfl)
      · cases h4
    · cases h
  | load t a =>
    simp only [compOp] at h
    obtain ⟨x, h1, h2⟩ := msi.1 h
    subst h2
    exact load_ok rfl h1
  | store t a x =>
    simp only [compOp] at h
    obtain ⟨n, h1, h2⟩ := msi.1 h
    subst h2
    exact store_ok rfl h1
  | nilCheck x => cases h; exact nilCheck_ok rfl
  | binOp o xT x y yT =>
    simp only [compOp] at h
    have nc : ∀ d, P.underlying xT = some d → nilCmp o d x y = some op → OpOk P base rec { dst, op := .binOp o xT x y yT, type := ty, pos, after, guard } op := by
      intro d hT hn
      unfold nilCmp at hn
      split at hn
      · rename_i ho
        split at hn
        · rename_i k hk1
          cases hn
          exact eqNil_ok hT ho rfl (.inl ⟨hk1, rfl⟩)
        · split at hn
          · rename_i k hk1
            cases hn
            exact eqNil_ok hT ho rfl (.inr ⟨hk1, rfl⟩)
          · cases hn
      · cases hn
    split at h
    · cases h; exact bin_ok rfl
    · rename_i hT
      split at h
      · rename_i ho; cases h; exact binB_ok hT (.inl ⟨ho, rfl⟩) rfl
      · split at h
        · rename_i ho; cases h; exact binB_ok hT (.inr ⟨ho, rfl⟩) rfl
        · cases h
    · rename_i e hT; exact nc _ hT h
    · rename_i e hT; exact nc _ hT h
    · rename_i e1 e2 e3 hT; exact nc _ hT h
    · rename_i e1 e2 hT; exact nc _ hT h
    · rename_i fs hT
      split at h
      · rename_i hc
        obtain ⟨l, h1, h2⟩ := msi.1 h
        subst h2
        exact eqAgg_ok h1 (by simp [isAggT, hT]) hc.2 hc.1 rfl
      · cases h
    · rename_i ln e hT
      split at h
      · rename_i hc
        obtain ⟨l, h1, h2⟩ := msi.1 h
        subst h2
        exact eqAgg_ok h1 (by simp [isAggT, hT]) hc.2 hc.1 rfl
      · cases h
    · cases h
  | unOp o xT x => cases h; exact un_ok rfl
  | convert src dst x =>
    simp only [compOp] at h
    split at h
    · rename_i h1 h2
      cases h
      exact conv_ok rfl h1 h2
    · cases h
  | makeFunc fn a b =>
    cases fn with
    | func g => cases h; exact makeFunc_ok rfl
    | _ => simp [compOp] at h
  | slice T x lo hi mx =>
    simp only [compOp] at h
    split at h
    · rename_i e hT
      split at h
      · obtain ⟨n, h1, h2⟩ := msi.1 h
        subst h2
        exact slice_ok rfl hT h1
      · split at h
        · split at h
          · rename_i hs
            cases h
            obtain ⟨n, hn⟩ := Option.isSome_iff_exists.1 hs
            exact slice0_ok rfl hT hn
          · cases h
        · cases h
    · rename_i n e hT
      split at h
      · rename_i hm
        obtain ⟨m, h1, h2⟩ := msi.1 h
        subst h2
        have : mx = none := by simpa using hm
        subst this
        exact sliceArr_ok rfl (.inl hT) h1
      · cases h
    · rename_i a hT
      split at h
      · rename_i n e hT2
        split at h
        · rename_i hm
          obtain ⟨m, h1, h2⟩ := msi.1 h
          subst h2
          have : mx = none := by simpa using hm
          subst this
          exact sliceArr_ok rfl (.inr ⟨a, hT, hT2⟩) h1
        · cases h
      · cases h
    · cases h
  | fieldAddr s x f =>
    simp only [compOp] at h
    split at h
    · rename_i fs hT
      obtain ⟨fd, h1, h2⟩ := bsi.1 h
      obtain ⟨n, h3, h4⟩ := bsi.1 h2
      split at h4
      · rename_i hp
        cases h4
        exact fieldAddr_ok rfl hT h1 h3 hp
      · cases h4
    · cases h
  | field s x f =>
    simp only [compOp] at h
    split at h
    · rename_i fs hT
      obtain ⟨fd, h1, h2⟩ := bsi.1 h
      obtain ⟨n, h3, h4⟩ := bsi.1 h2
      split at h4
      · rename_i hs
        cases h4
        obtain ⟨D, hD⟩ := Option.isSome_iff_exists.1 hs
        exact field_ok rfl hT h1 h3 hD
      · cases h4
    · cases h
  | indexAddr T x i =>
    simp only [compOp] at h
    split at h
    · rename_i e hT
      obtain ⟨n, h1, h2⟩ := msi.1 h
      subst h2
      exact indexAddr_ok rfl hT h1
    · rename_i ln e hT
      obtain ⟨n, h1, h2⟩ := msi.1 h
      subst h2
      exact indexArr_ok rfl hT h1
    · cases h
  | index T x i =>
    simp only [compOp] at h
    split at h
    · rename_i ln e hT
      obtain ⟨n, h1, h2⟩ := bsi.1 h
      split at h2
      · rename_i hs
        cases h2
        obtain ⟨D, hD⟩ := Option.isSome_iff_exists.1 hs
        exact index_ok rfl hT h1 hD
      · cases h2
    · rename_i hT
      cases h
      exact indexStr_ok rfl hT
    · cases h
  | extract x i => cases h; exact extract_ok rfl
  | makeMap t res =>
    cases res with
    | none =>
      obtain ⟨k, h3, h4⟩ := msi.1 h
      subst h4
      exact make_ok rfl
    | some x => simp [compOp] at h
  | lookup t m i ok =>
    obtain ⟨k, h3, h4⟩ := msi.1 h
    subst h4
    exact look_ok rfl h3
  | mapUpdate t m i v =>
    obtain ⟨k, h3, h4⟩ := msi.1 h
    subst h4
    exact upd_ok rfl h3
  | call c0 =>
    simp only [compOp] at h
    split at h
    · rename_i hc
      split at h
      · rename_i t x h1 h2
        split at h
        · rename_i e hT; cases h; exact len_ok rfl hc h2 h1 hT
        · rename_i hT; cases h; exact lenS_ok rfl hc h2 h1 hT
        · rename_i n e hT; cases h; exact lenC_ok rfl hc h2 h1 (.inl ⟨e, hT⟩)
        · rename_i a hT
          split at h
          · rename_i n e hT2; cases h; exact lenC_ok rfl hc h2 h1 (.inr ⟨a, e, hT, hT2⟩)
          · cases h
        · cases h
      · cases h
    · rename_i hc
      split at h
      · rename_i s u x y h1 h2
        split at h
        · rename_i e e2 hT hT2
          obtain ⟨i, h3, h4⟩ := bsi.1 h
          split at h4
          · rename_i hp
            cases h4
            exact append_ok rfl hc h2 h1 hT hT2 h3 hp.1 hp.2
          · cases h4
        · cases h
      · cases h
    · rename_i hc
      split at h
      · rename_i s u x y h1 h2
        split at h
        · rename_i e e2 hT hT2
          obtain ⟨n, h3, h4⟩ := bsi.1 h
          split at h4
          · cases h4
            exact copy_ok rfl hc h2 h1 hT h3
          · cases h4
        · cases h
      · cases h
    · rename_i hc
      split at h
      · rename_i t m i h1 h2
        obtain ⟨k, h3, h4⟩ := msi.1 h
        subst h4
        exact del_ok rfl hc h2 h1 h3
      · cases h
    · rename_i hc; cases h; exact minmax_ok (mx := false) rfl hc
    · rename_i hc; cases h; exact minmax_ok (mx := true) rfl hc
    · obtain ⟨r, h1, h2⟩ := msi.1 h
      subst h2
      simp [notCall] at hk
    · cases h
  | _ => simp [compOp] at h
end
def FW (ro : Option Nat) : Fence := { Fence.wide with round := ro }
theorem FW_depth (ro : Option Nat) : (FW ro).depth = none := rfl
def RoundOk (ro : Option Nat) (W : World) : Prop := ∀ l, ro = some l → ∃ r, W.heap[l]? = some (.loop r)
def DRel (lo : Nat) (W : World) (ds : List Deferred) : Prop :=
  ∃ rs : List Nat, ds = rs.map (fun r => ({ target := .collected r, args := #[] } : Deferred)) ∧ rs.Nodup ∧ ∀ r ∈ rs, lo ≤ r ∧ W.heap[r]? = some (.deferred (some []))
inductive ERel : AExit → Exit → Prop
  | normal : ERel .normal .normal
  | exit (id : Nat) (h : id < gotoB) : ERel (.exit id) (.exit id)
  | goto (l : Nat) : ERel (.exit (gotoB + l)) (.goto l)
  | ret : ERel .ret .ret
section
variable {P : Program} {base : Nat} {A : AMem} {ι : Iota} {W : World}
theorem RoundOk.ev {ro : Option Nat} {A' : AMem} {ι' : Iota} {W' : World} (h : RoundOk ro W) (e : Ev base A ι W A' ι' W') : RoundOk ro W' := fun l hl => by
  obtain ⟨r, hr⟩ := h l hl
  exact e.loops l r hr
theorem DRel.ev {lo : Nat} {ds : List Deferred} {A' : AMem} {ι' : Iota} {W' : World} (h : DRel lo W ds) (e : Ev base A ι W A' ι' W') : DRel lo W' ds := by
  obtain ⟨rs, h1, h2, h3⟩ := h
  exact ⟨rs, h1, h2, fun r hr => ⟨(h3 r hr).1, e.deferred r _ (h3 r hr).2⟩⟩
theorem Ev.size {A' : AMem} {ι' : Iota} {W' : World} (e : Ev base A ι W A' ι' W') : W.heap.size ≤ W'.heap.size := e.below.size
def Post (P : Program) (base lo : Nat) (K : KT) (r : Value × AMem) (A : AMem) (ι : Iota) (W : World) : Exit → Act → World → Prop := fun e a W' =>
  ∃ ae t' A' ι', K ae t' A' = some r ∧ ERel ae e ∧ Sim P base A' ι' W' ∧ LRel A' ι' W' t' a.tmps.toList ∧ DRel lo W' a.defers ∧ Ev base A ι W A' ι' W'
def CallPost (P : Program) (base : Nat) (A : AMem) (ι : Iota) (W : World) (r : Value × AMem) : Ending → World → Prop := fun e W' =>
  ∃ v' ι', e = .returned v' ∧ Sim P base r.2 ι' W' ∧ Ev base A ι W r.2 ι' W' ∧ VRel r.2 ι' W' r.1 v'
def CodeOk (P : Program) (c : Code) (ex : KT → List Value → AMem → Res) : Prop :=
  ∀ (K : KT) (t : List Value) (A : AMem) (r : Value × AMem), ex K t A = some r → ∀ (ro : Option Nat) (n base lo : Nat) (ι : Iota) (W : World) (act : Act),
    RoundOk ro W → Sim P base A ι W → LRel A ι W t act.tmps.toList → DRel lo W act.defers → lo ≤ W.heap.size → base ≤ lo →
    c.wpIn (FW ro) n P (Post P base lo K r A ι W) act W
structure RecOk (P : Program) (rec : Rec) : Prop where
  call : ∀ (f : FuncId) (args : List Value) (A : AMem) (r : Value × AMem), rec.call f args A = some r → ∀ (base : Nat) (ι : Iota) (W : World) (args' : Array Value),
    Sim P base A ι W → LRel A ι W args args'.toList → base ≤ W.heap.size →
    (callFunc f args').run P W = .ok (.enter f args') W ∧ Calls P f args' W (CallPost P base A ι W r)
  round : ∀ (l : Nat) (args : List Value) (A : AMem) (r : Value × AMem), rec.round l args A = some r → ∀ (base : Nat) (ι : Iota) (W : World) (args' : Array Value) (l' : Nat),
    Sim P base A ι W → LRel A ι W args args'.toList → base ≤ W.heap.size → VRel A ι W (.func (.yield l) #[] #[]) (.func (.yield l') #[] #[]) →
    ∃ fn tmps assign body, (Instr.yield l' args').run P W = .ok (.round l' fn tmps assign body) W ∧ ∀ n, RoundIn Fence.wide n P l' fn tmps assign body W (CallPost P base A ι W r)
  loop : ∀ (b : ACode) (c : Code), comp P c = some (erase b) → CodeOk P (.loop c) (rec.loop b)
theorem comp_not_defer {oc : Oper} {op : AOp} (h : compOp P oc = some op) : ∀ c, oc.op ≠ .defer c := by
  intro c hc
  simp [compOp, hc] at h
theorem about_wide (ro : Option Nat) (oc : Oper) (w : World) (ρ : Operand → Value) : ∀ f, oc.about P w ρ = some f → (FW ro).fn f := fun _ _ => trivial
def flatR : Value → Bool
  | .tuple cs => cs.toList.all flatV
  | v => flatV v
theorem flatR_rel {v v' : Value} (h : flatR v = true) (k : VRel A ι W v v') {A' : AMem} {ι' : Iota} {W' : World} : VRel A' ι' W' v v' := by
  have key : flatV v = true → VRel A' ι' W' v v' := fun hf => by rw [← flatV_eq k hf]; exact VRel.flatV' hf
  cases v with
  | tuple cs =>
    obtain ⟨x', rfl, hx⟩ := tuple_inv k
    refine .tuple _ _ (by simpa using hx.1) fun j u u' e e' => ?_
    have huu := hx.2 j u u' (by simpa using e) (by simpa using e')
    have hf : flatV u = true := by
      simp only [flatR, List.all_eq_true] at h
      exact h u (Array.mem_toList_iff.2 (Array.mem_of_getElem? e))
    rw [← flatV_eq huu hf]
    exact VRel.flatV' hf
  | _ => exact key h
theorem ldLeaf_flat {lf : Leaf} (hl : flatLf lf = true) {src : Option Value} {K : Value → Res} {r : Value × AMem} (h : ldLeaf lf src K = some r) : ∃ u w, src = some w ∧ K u = some r ∧ Sub u w ∧ flatLeaf u = true := by
  cases lf with
  | int k =>
    simp only [ldLeaf, bsi] at h
    obtain ⟨n, h1, h2⟩ := h
    unfold intOf? at h1
    split at h1
    · split at h1
      · rename_i k' m hk
        cases h1; subst hk
        exact ⟨_, _, rfl, h2, Sub.refl _, rfl⟩
      · cases h1
    · cases h1
  | bool =>
    simp only [ldLeaf, bsi] at h
    obtain ⟨n, h1, h2⟩ := h
    unfold boolOf? at h1
    split at h1
    · cases h1; exact ⟨_, _, rfl, h2, Sub.refl _, rfl⟩
    · cases h1
  | str =>
    simp only [ldLeaf, bsi] at h
    obtain ⟨n, h1, h2⟩ := h
    unfold strOf? at h1
    split at h1
    · cases h1; exact ⟨_, _, rfl, h2, Sub.refl _, rfl⟩
    · cases h1
  | _ => simp [flatLf] at hl
theorem ldLeaves_flat {get : Nat → Option Value} {r : Value × AMem} : ∀ (lfs : List Leaf) (i : Nat) (K : List Value → Res), lfs.all flatLf = true → ldLeaves get lfs i K = some r →
    ∃ us ws : List Value, us.length = lfs.length ∧ ws.length = lfs.length ∧ K us = some r ∧ us.all flatLeaf = true ∧ (∀ j w, ws[j]? = some w → get (i + j) = some w) ∧
      ∀ (j : Nat) (u w : Value), us[j]? = some u → ws[j]? = some w → Sub u w
  | [], i, K, _, h => ⟨[], [], rfl, rfl, h, rfl, fun j w e => by simp at e, fun j u w e => by simp at e⟩
  | lf :: rest, i, K, hf, h => by
    simp only [ldLeaves] at h
    simp only [List.all_cons, Bool.and_eq_true] at hf
    obtain ⟨u, w, h1, h2, h3, h4⟩ := ldLeaf_flat hf.1 h
    obtain ⟨us, ws, k1, k2, k3, k4, k5, k6⟩ := ldLeaves_flat rest (i + 1) _ hf.2 h2
    refine ⟨u :: us, w :: ws, by simp [k1], by simp [k2], k3, by simp only [List.all_cons, h4, k4, Bool.and_self], fun j x e => ?_, fun j x y e e' => ?_⟩
    · cases j with
      | zero => simp at e; subst e; simpa using h1
      | succ j => simp at e; have := k5 j x e; rw [← this]; congr 1; omega
    · cases j with
      | zero => simp at e e'; subst e; subst e'; exact h3
      | succ j => simp at e e'; exact k6 j x y e e'
theorem view1_flat {ty : Bool × List Leaf} (hf : flatTy ty = true) {v : Value} {K : Value → Res} {r : Value × AMem} (h : view1 ty v K = some r) : ∃ u, K u = some r ∧ Sub u v ∧ flatV u = true := by
  obtain ⟨g, lfs⟩ := ty
  unfold view1 at h
  cases g with
  | true =>
    simp only [if_true] at h
    obtain ⟨cs, h1, h2⟩ := bsi.1 h
    unfold aggOf? at h1
    split at h1
    · rename_i x
      split at h1
      · rename_i hsz0
        have hsz : x.size = lfs.length := hsz0
        cases h1
        obtain ⟨us, ws, k1, k2, k3, k4, k5, k6⟩ := ldLeaves_flat _ _ _ hf h2
        have k2' : ws.length = lfs.length := k2
        refine ⟨_, k3, fun A ι W v' hv => ?_, by simpa [flatV] using k4⟩
        obtain ⟨x', rfl, hx⟩ := agg_inv hv
        have hws : ws = x.toList := by
          refine List.ext_getElem? fun j => ?_
          by_cases hj : j < ws.length
          · have := k5 j _ (gee hj)
            rw [gee hj]; rw [Nat.zero_add] at this; exact this.symm
          · rw [List.getElem?_eq_none (by omega), List.getElem?_eq_none (by simp only [Array.length_toList]; omega)]
        subst hws
        exact agg_of_LRel (LRel.sub (k1.trans k2.symm) k6 hx)
      · cases h1
    · cases h1
  | false =>
    simp only [Bool.false_eq_true, if_false] at h
    split at h
    · rename_i lf
      have hfl : flatLf lf = true := by simpa [flatTy] using hf
      obtain ⟨u, w, h1, h2, h3, h4⟩ := ldLeaf_flat hfl h
      cases h1
      refine ⟨u, h2, h3, ?_⟩
      cases u with
      | agg cs => simp [flatLeaf] at h4
      | _ => exact h4
    · cases h
theorem viewN_flat {cs : List Value} {r : Value × AMem} : ∀ (ret : List (Bool × List Leaf)) (i : Nat) (K : List Value → Res), ret.all flatTy = true → viewN cs ret i K = some r →
    ∃ us ws : List Value, us.length = ret.length ∧ ws.length = ret.length ∧ K us = some r ∧ us.all flatV = true ∧ (∀ j w, ws[j]? = some w → cs[i + j]? = some w) ∧
      ∀ (j : Nat) (u w : Value), us[j]? = some u → ws[j]? = some w → Sub u w
  | [], i, K, _, h => ⟨[], [], rfl, rfl, h, rfl, fun j w e => by simp at e, fun j u w e => by simp at e⟩
  | ty :: rest, i, K, hf, h => by
    simp only [viewN] at h
    simp only [List.all_cons, Bool.and_eq_true] at hf
    obtain ⟨w, h1, h2⟩ := bsi.1 h
    obtain ⟨u, h3, h4, h5⟩ := view1_flat hf.1 h2
    obtain ⟨us, ws, k1, k2, k3, k4, k5, k6⟩ := viewN_flat rest (i + 1) _ hf.2 h3
    refine ⟨u :: us, w :: ws, by simp [k1], by simp [k2], k3, by simp only [List.all_cons, h5, k4, Bool.and_self], fun j x e => ?_, fun j x y e e' => ?_⟩
    · cases j with
      | zero => simp at e; subst e; simpa using h1
      | succ j => simp at e; have := k5 j x e; rw [← this]; congr 1; omega
    · cases j with
      | zero => simp at e e'; subst e; subst e'; exact h4
      | succ j => simp at e e'; exact k6 j x y e e'
theorem view_flat {ret : List (Bool × List Leaf)} {single : Bool} (hf : ret.all flatTy = true) {v : Value} {K : Value → Res} {r : Value × AMem} (h : view ret single v K = some r) :
    ∃ u, K u = some r ∧ Sub u v ∧ flatR u = true := by
  unfold view at h
  cases single with
  | true =>
    simp only [if_true] at h
    split at h
    · rename_i ty
      obtain ⟨u, h1, h2, h3⟩ := view1_flat (by simpa using hf) h
      refine ⟨u, h1, h2, ?_⟩
      cases u with
      | tuple cs => simp [flatV, flatLeaf] at h3
      | _ => exact h3
    · cases h
  | false =>
    simp only [Bool.false_eq_true, if_false] at h
    obtain ⟨cs, h1, h2⟩ := bsi.1 h
    unfold tupOf? at h1
    split at h1
    · rename_i x
      split at h1
      · rename_i hsz
        cases h1
        obtain ⟨us, ws, k1, k2, k3, k4, k5, k6⟩ := viewN_flat _ _ _ hf h2
        refine ⟨_, k3, fun A ι W v' hv => ?_, by simpa [flatR] using k4⟩
        obtain ⟨x', rfl, hx⟩ := tuple_inv hv
        have hws : ws = x.toList := by
          refine List.ext_getElem? fun j => ?_
          by_cases hj : j < ws.length
          · have := k5 j _ (gee hj)
            rw [gee hj]; rw [Nat.zero_add] at this; exact this.symm
          · rw [List.getElem?_eq_none (by omega), List.getElem?_eq_none (by simp only [Array.length_toList]; omega)]
        subst hws
        exact tuple_of_LRel (LRel.sub (k1.trans k2.symm) k6 hx)
      · cases h1
    · cases h1
theorem Sim.grow (h : Sim P base A ι W) {W' : World} {A2 : AMem} {ι2 : Iota} {A3 : AMem} {ι3 : Iota} (hb : base ≤ W.heap.size) (e : Ev W.heap.size A2 ι2 W A3 ι3 W') : Sim P base A ι W' ∧ Ev base A ι W A ι W' := by
  have hsz : ∀ b, szW W b ≤ szW W' b := fun b => by
    unfold szW
    by_cases hb : b < W.heap.size
    · rw [e.below.block b hb]; exact Nat.le_refl _
    · rw [Array.getElem?_eq_none (by omega)]; exact Nat.zero_le _
  have hle : Le A ι W A ι W' := ⟨fun _ h => h, fun _ _ _ h => .inr h, hsz, .refl _, Nat.le_refl _, fun _ _ h => h⟩
  have off : ∀ (b : Nat) (x : Obj), W.heap[b]? = some x → W'.heap[b]? = some x := fun b x hx =>
    (e.below.block b (Array.getElem?_eq_some_iff.1 hx).1).trans hx
  refine ⟨⟨h.has, fun a b o cs m hi hcs => ?_, fun a b o l hi hcs => ?_, h.leaf, fun a b o k kv es hi hcs => ?_, h.sep⟩, ⟨hle, e.below.mono hb, fun r ds q => off _ _ q, fun r l q => ⟨l, off _ _ q⟩⟩⟩
  · obtain ⟨cs', t, fr, hb, q1, q2, q3⟩ := h.cells a b o cs m hi hcs
    refine ⟨cs', t, fr, off _ _ hb, q1, fun j v hv => ?_, q3⟩
    obtain ⟨v', r1, r2⟩ := q2 j v hv
    exact ⟨v', r1, r2.mono hle⟩
  · obtain ⟨l', hb, q1, q2⟩ := h.loop a b o l hi hcs
    exact ⟨l', off _ _ hb, q1.mono hle, q2⟩
  · obtain ⟨⟨es', c, hb, q1⟩, q2⟩ := h.map a b o k kv es hi hcs
    exact ⟨⟨es', c, off _ _ hb, q1⟩, q2⟩
theorem Sim.empty (base : Nat) (W : World) : Sim P base [] (fun _ => none) W where
  has := by intro a b o h; cases h
  cells := by intro a b o cs m h; cases h
  loop := by intro a b o l h; cases h
  leaf := by intro a b o cs m h; cases h
  map := by intro a b o k kv es h; cases h
  sep := by intro a a' b o o' _ h; cases h
theorem callsIn_FW {f : FuncId} {args : Array Value} {w : World} {R : Ending → World → Prop} (ro : Option Nat) (n : Nat) (h : Calls P f args w R) : CallsIn (FW ro) n P f args w R :=
  (callsIn_wide.2 h : CallsIn Fence.wide n P f args w R)
theorem roundIn_FW {l : Nat} {f : FuncId} {tmps : Array Value} {a b : Code} {w : World} {R : Ending → World → Prop} (ro : Option Nat) (n : Nat) (h : RoundIn Fence.wide n P l f tmps a b w R) : RoundIn (FW ro) n P l f tmps a b w R := h
theorem opStep {rec : Rec} (hrec : RecOk P rec) {oc : Oper} {op : AOp} (hc : compOp P oc = some op) {t : List Value} {act : Act} {K : Value → AMem → Res} {r : Value × AMem}
    (hs : Sim P base A ι W) (ht : LRel A ι W t act.tmps.toList) (hb : base ≤ W.heap.size) (hk : opK rec op t A K = some r) (ro : Option Nat) (n : Nat) (next : Act → World → Prop) (Q : Exit → Act → World → Prop)
    (hnext : ∀ v A' ι' W' v', K v A' = some r → Sim P base A' ι' W' → Ev base A ι W A' ι' W' → VRel A' ι' W' v v' → next (act.put oc.dst v') W') :
    oc.wpIn (FW ro) n P act W next Q := by
  refine ⟨about_wide ro oc W act.eval, ?_⟩
  rw [Oper.semAt_eq _ _ _ (comp_not_defer hc)]
  by_cases hn : notCall op = true
  · obtain ⟨v, A', h1, nx, v', W', ι', h2, h3, h4, h5, h6⟩ := op_ok (rec := rec) (base := base) hc hn t A ι W act K r hs ht hb hk
    rw [h2]
    rcases h3 with rfl | ⟨rfl, rfl⟩
    · exact hnext v A' ι' W' v' h1 h4 h5 h6
    · exact hnext v A' ι' W' undef h1 h4 h5 h6
  · obtain ⟨flat, f, args, ret, single, rfl⟩ : ∃ flat f args ret single, op = .call flat f args ret single := by
      cases op <;> simp [notCall] at hn
      exact ⟨_, _, _, _, _, rfl⟩
    have hoc : ∃ c0, oc.op = .call c0 ∧ c0.callee = .value f ∧ c0.args.toList = args ∧ (flat = true → ret.all flatTy = true) := by
      obtain ⟨dst, o, ty, pos, after, guard⟩ := oc
      cases o with
      | call c0 =>
        refine ⟨c0, rfl, ?_⟩
        simp only [compOp] at hc
        split at hc
        · repeat' split at hc
          all_goals (first | (cases hc; done) | simp at hc)
        · split at hc
          · split at hc
            · obtain ⟨i, h3, h4⟩ := bsi.1 hc
              split at h4 <;> simp at h4
            · cases hc
          · cases hc
        · split at hc
          · split at hc
            · obtain ⟨i, h3, h4⟩ := bsi.1 hc
              split at h4 <;> simp at h4
            · cases hc
          · cases hc
        · split at hc
          · obtain ⟨i, h3, h4⟩ := msi.1 hc
            cases h4
          · cases hc
        · simp at hc
        · simp at hc
        · rename_i g hcal
          obtain ⟨q, h1, h2⟩ := msi.1 hc
          cases h2
          refine ⟨hcal, rfl, fun hfl => ?_⟩
          unfold flatCall at hfl
          split at hfl
          · split at hfl
            · simp only [Bool.and_eq_true] at hfl
              exact hfl.1.2
            · cases hfl
          · cases hfl
        · cases hc
      | _ => exfalso; simp only [compOp, nilCmp] at hc <;> (repeat' split at hc) <;> simp_all [bsi, msi]
    obtain ⟨c0, hop, hcal, hargs, hflat⟩ := hoc
    have hxs := ev_list ht args
    have hfv := ev_rel ht f
    have hav : (c0.args.map act.eval).toList = args.map act.eval := by rw [Array.toList_map, hargs]
    rw [exec_call hop]
    simp only [opK] at hk
    split at hk
    · rename_i fn first cap hev
      rw [hev] at hfv
      split at hk
      · rename_i g
        obtain ⟨x', y', hfe, hfx, hfy⟩ := func_inv hfv
        have hres : (resolve act.eval c0 oc.type).run P W = .ok { target := .fn (.func g) y', args := x' ++ c0.args.map act.eval } W := by
          simp [resolve, hcal, hfe, Deferred.ofValue]
        rw [Sem.run_bind, hres]
        simp only [Result.andThen_ok, invoke]
        split at hk
        ·
          rename_i hfl
          split at hk
          · rename_i hcond
            simp only [Bool.and_eq_true] at hcond
            obtain ⟨⟨c1, c2⟩, c3⟩ := hcond
            obtain ⟨q, h1, h2⟩ := bsi.1 hk
            have e1 : first.toList = [] := by simpa using c2
            have e2 : cap.toList = [] := by simpa using c3
            have hx0 : x' = #[] := by
              have := hfx.1; rw [e1] at this; simp at this; exact Array.eq_empty_of_size_eq_zero this.symm
            have hy0 : y' = #[] := by
              have := hfy.1; rw [e2] at this; simp at this; exact Array.eq_empty_of_size_eq_zero this.symm
            subst hx0; subst hy0
            simp only [Array.empty_append, Array.append_empty]
            have hflat2 : LRel ([] : AMem) (fun _ => none) W (args.map (ev t)) (c0.args.map act.eval).toList := by
              rw [hav]
              refine ⟨hxs.1, fun j v v' e e' => ?_⟩
              have := hxs.2 j v v' e e'
              have hvf : flatV v = true := by rw [List.all_eq_true] at c1; exact c1 v (List.mem_iff_getElem?.2 ⟨j, e⟩)
              rw [← flatV_eq this hvf]
              exact VRel.flatV' hvf
            obtain ⟨hcf, hcalls⟩ := hrec.call g _ [] q h1 W.heap.size (fun _ => none) W (c0.args.map act.eval) (Sim.empty _ _) hflat2 (Nat.le_refl _)
            rw [hcf]
            refine ⟨fun h => by simp [FW_depth] at h, (callsIn_FW ro _ hcalls).mono fun e W' he => ?_⟩
            obtain ⟨v', ι', rfl, s1, ev1, vr⟩ := he
            obtain ⟨u, k1, k2, k3⟩ := view_flat (hflat hfl) h2
            obtain ⟨s2, ev2⟩ := hs.grow hb ev1
            exact hnext u A ι W' v' k1 s2 ev2 (flatR_rel k3 (k2 _ _ _ _ vr))
          · cases hk
        · obtain ⟨q, h1, h2⟩ := bsi.1 hk
          have hall : LRel A ι W (first.toList ++ args.map (ev t) ++ cap.toList) (x' ++ c0.args.map act.eval ++ y').toList := by
            simp only [Array.toList_append, hav]
            exact (hfx.append hxs).append hfy
          obtain ⟨hcf, hcalls⟩ := hrec.call g _ A q h1 base ι W _ hs hall hb
          rw [hcf]
          refine ⟨fun h => by simp [FW_depth] at h, (callsIn_FW ro _ hcalls).mono fun e W' he => ?_⟩
          obtain ⟨v', ι', rfl, s1, ev1, vr⟩ := he
          obtain ⟨u, k1, k2⟩ := view_ok h2
          exact hnext u q.2 ι' W' v' k1 s1 ev1 (k2 _ _ _ _ vr)
      · rename_i l
        have hk := (show _ = _ from hk)
        split at hk
        · cases hk
        obtain ⟨q, h1, h2⟩ := bsi.1 hk
        obtain ⟨rfl, rfl, l', hfe, _⟩ := yield_inv hfv
        have hres : (resolve act.eval c0 oc.type).run P W = .ok { target := .fn (.yield l') #[], args := c0.args.map act.eval } W := by
          simp [resolve, hcal, hfe, Deferred.ofValue]
        rw [Sem.run_bind, hres]
        simp only [Result.andThen_ok, invoke]
        rw [hfe] at hfv
        obtain ⟨fn, tmps, assign, body, hy1, hy2⟩ := hrec.round l _ A q h1 base ι W (c0.args.map act.eval) l' hs (by rw [hav]; exact hxs) hb hfv
        rw [hy1]
        refine ⟨fun h => by simp [FW_depth] at h, (roundIn_FW ro _ (hy2 _)).mono fun e W' he => ?_⟩
        obtain ⟨v', ι', rfl, s1, ev1, vr⟩ := he
        obtain ⟨u, k1, k2⟩ := view_ok h2
        exact hnext u q.2 ι' W' v' k1 s1 ev1 (k2 _ _ _ _ vr)
      · cases hk
    · cases hk
end
section
variable {P : Program} {base : Nat} {A : AMem} {ι : Iota} {W : World}
theorem put_rel {t : List Value} {act : Act} {v v' : Value} (ht : LRel A ι W t act.tmps.toList) (hv : VRel A ι W v v') (dst : Option Nat) : LRel A ι W (setT t dst v) (act.put dst v').tmps.toList := by
  cases dst with
  | none => exact ht
  | some d =>
    simp only [setT, Act.put, Array.toList_setIfInBounds]
    exact ht.set d hv
theorem put_defers (act : Act) (dst : Option Nat) (v : Value) : (act.put dst v).defers = act.defers := by cases dst <;> rfl
theorem set_same {t : List Value} {g : Nat} {v : Value} (h : t.getD g undef = v) (hv : v ≠ undef) : t.set g v = t := by
  by_cases hg : g < t.length
  · have : t[g] = v := by simpa [List.getD, hg] using h
    rw [← this]; exact List.set_getElem_self hg
  · exfalso
    apply hv
    rw [← h]; simp [List.getD, List.getElem?_eq_none (Nat.le_of_not_lt hg)]
theorem compOper_inv {ops : Array Oper} {oc : Oper} {o : AOper} (h : compOper P ops oc = some o) : compOp P oc = some o.op ∧ o.dst = oc.dst ∧
    ((oc.guard = none ∧ o.guard = none) ∨ ∃ j want d, oc.guard = some (j, want) ∧ (ops[j]?).bind (·.dst) = some d ∧ o.guard = some (d, want)) := by
  unfold compOper at h
  obtain ⟨a, h1, h2⟩ := bsi.1 h
  split at h2
  · rename_i hg; cases h2; exact ⟨h1, rfl, .inl ⟨hg, rfl⟩⟩
  · rename_i j want hg
    obtain ⟨d, h3, h4⟩ := msi.1 h2
    subst h4
    exact ⟨h1, rfl, .inr ⟨j, want, d, hg, h3, rfl⟩⟩
theorem guard_rel {ops : Array Oper} {act : Act} {t : List Value} (ht : LRel A ι W t act.tmps.toList) {j d : Nat} (hd : (ops[j]?).bind (·.dst) = some d) :
    (∀ b, t.getD d undef = .bool b → yielded ops act.tmps j = some b) ∧ (∀ vs, t.getD d undef = .tuple vs → yielded ops act.tmps j = none) := by
  have hy : yielded ops act.tmps j = match act.tmps[d]? with | some (.bool b) => some b | _ => none := by
    unfold yielded
    rw [hd]; rfl
  refine ⟨fun b hb => ?_, fun vs hv => ?_⟩
  · have hlt : d < t.length := by
      by_cases hg : d < t.length
      · exact hg
      · simp [List.getD, List.getElem?_eq_none (Nat.le_of_not_lt hg), undef] at hb
    have hget : t[d]? = some (.bool b) := by
      rw [gee hlt]; simpa [List.getD, hlt] using hb
    obtain ⟨v', e1, e2⟩ := ht.get hget
    have := bool_inv e2
    rw [hy]
    have e3 : act.tmps[d]? = some v' := by simpa using e1
    rw [e3, this]
  · rw [hy]
    by_cases hlt : d < t.length
    · have hget : t[d]? = some (.tuple vs) := by
        rw [gee hlt]; simpa [List.getD, hlt] using hv
      obtain ⟨v', e1, e2⟩ := ht.get hget
      obtain ⟨x', rfl, _⟩ := tuple_inv e2
      have e3 : act.tmps[d]? = some (.tuple x') := by simpa using e1
      rw [e3]
    · have hge : act.tmps.size ≤ d := Nat.le_of_not_lt fun q => hlt (Nat.lt_of_lt_of_eq q (ht.1.trans Array.length_toList).symm)
      rw [Array.getElem?_eq_none hge]
theorem operStep {rec : Rec} (hrec : RecOk P rec) {ops : Array Oper} {oc : Oper} {o : AOper} (hc : compOper P ops oc = some o) {t : List Value} {act : Act} {K : List Value → AMem → Res} {r : Value × AMem}
    (hs : Sim P base A ι W) (ht : LRel A ι W t act.tmps.toList) (hb : base ≤ W.heap.size) (hk : operK rec o t A K = some r) (ro : Option Nat) (n : Nat) (next : Act → World → Prop) (Q : Exit → Act → World → Prop)
    (hnext : ∀ t' A' ι' W' a', K t' A' = some r → Sim P base A' ι' W' → LRel A' ι' W' t' a'.tmps.toList → a'.defers = act.defers → Ev base A ι W A' ι' W' → next a' W') :
    if Region.wanted oc (yielded ops act.tmps) then oc.wpIn (FW ro) n P act W next Q
    else (∀ f, oc.about P W act.eval = some f → (FW ro).fn f) ∧ next (act.put oc.dst undef) W := by
  obtain ⟨h1, h2, h3⟩ := compOper_inv hc
  have step : ∀ (t1 : List Value), t1 = t → opK rec o.op t1 A (fun v M => K (setT t1 o.dst v) M) = some r → oc.wpIn (FW ro) n P act W next Q := fun t1 e hk0 => by
    subst e
    refine opStep hrec h1 hs ht hb hk0 ro n next Q fun v A' ι' W' v' k1 k2 k3 k4 => ?_
    refine hnext _ A' ι' W' _ k1 k2 ?_ (put_defers _ _ _) k3
    rw [h2]
    exact put_rel (ht.mono k3.le) k4 oc.dst
  have skip : ∀ (t1 : List Value), t1 = t → K (setT t1 o.dst undef) A = some r → (∀ f, oc.about P W act.eval = some f → (FW ro).fn f) ∧ next (act.put oc.dst undef) W := fun t1 e hk0 => by
    subst e
    refine ⟨about_wide ro oc W act.eval, hnext _ A ι W _ hk0 hs ?_ (put_defers _ _ _) (.refl _ _ _ _)⟩
    rw [h2]
    exact put_rel ht VRel.undef' oc.dst
  unfold operK at hk
  simp only [setTF_eq, setF_eq] at hk
  rcases h3 with ⟨g1, g2⟩ | ⟨j, want, d, g1, g2, g3⟩
  · rw [g2] at hk
    simp only at hk
    rw [if_pos (by simp [Region.wanted, g1])]
    exact step t rfl hk
  · rw [g3] at hk
    simp only at hk
    obtain ⟨r1, r2⟩ := guard_rel (ops := ops) ht g2
    have hw : Region.wanted oc (yielded ops act.tmps) = (yielded ops act.tmps j == some want) := by simp [Region.wanted, g1]
    rw [hw]
    split at hk
    · rename_i b hbv
      rw [r1 b hbv]
      split at hk
      · rename_i hbt
        subst hbt
        have hset := set_same hbv (by simp [undef])
        split at hk
        · rename_i hwant
          subst hwant
          rw [if_pos (by simp)]
          exact step _ hset hk
        · rename_i hwant
          have : want = false := by simpa using hwant
          subst this
          rw [if_neg (by simp)]
          exact skip _ hset hk
      · rename_i hbt
        have : b = false := by simpa using hbt
        subst this
        have hset := set_same hbv (by simp [undef])
        split at hk
        · rename_i hwant
          subst hwant
          rw [if_neg (by simp)]
          exact skip _ hset hk
        · rename_i hwant
          have : want = false := by simpa using hwant
          subst this
          rw [if_pos (by simp)]
          exact step _ hset hk
    · rename_i vs hv
      rw [r2 vs hv]
      split at hk
      · rw [if_neg (by simp)]
        exact skip t rfl hk
      · cases hk
    · cases hk
theorem opsStep {rec : Rec} (hrec : RecOk P rec) {ops : Array Oper} (ro : Option Nat) (n : Nat) (Q : Exit → Act → World → Prop) (K : List Value → AMem → Res) (r : Value × AMem) :
    ∀ (ol : List Oper) (l : List AOper) (k : Nat), ol.mapM (compOper P ops) = some l → (∀ j, ol[j]? = ops[k + j]?) →
      ∀ (t : List Value) (A : AMem) (ι : Iota) (W : World) (act : Act), Sim P base A ι W → LRel A ι W t act.tmps.toList → base ≤ W.heap.size → opsK rec l t A K = some r →
      (∀ t' A' ι' W' a', K t' A' = some r → Sim P base A' ι' W' → LRel A' ι' W' t' a'.tmps.toList → a'.defers = act.defers → Ev base A ι W A' ι' W' → Q .normal a' W') →
      wpOpsIn (FW ro) n P ops Q (List.range' k ol.length) act W
  | [], l, k, hm, hidx, t, A, ι, W, act, hs, ht, hb, hk, hQ => by
    simp at hm; subst hm
    exact hQ t A ι W act hk hs ht rfl (.refl _ _ _ _)
  | oc :: ol, l, k, hm, hidx, t, A, ι, W, act, hs, ht, hb, hk, hQ => by
    simp only [List.mapM_cons] at hm
    obtain ⟨o, h1, h2⟩ := bsi.1 hm
    obtain ⟨l', h3, h4⟩ := bsi.1 h2
    cases h4
    have hk0 : ops[k]? = some oc := by simpa using (hidx 0).symm
    simp only [List.length_cons, List.range'_succ, wpOpsIn, hk0]
    refine operStep hrec h1 hs ht hb hk ro n _ Q fun t' A' ι' W' a' k1 k2 k3 k4 k5 => ?_
    refine opsStep hrec ro n Q K r ol l' (k + 1) h3 (fun j => by have := hidx (j + 1); simpa [Nat.add_assoc, Nat.add_comm 1 j] using this) t' A' ι' W' a' k2 k3 (Nat.le_trans hb k5.size) k1 ?_
    intro t'' A'' ι'' W'' a'' q1 q2 q3 q4 q5
    exact hQ t'' A'' ι'' W'' a'' q1 q2 q3 (q4.trans k4) (k5.trans q5)
end
section
variable {P : Program} {base : Nat} {A : AMem} {ι : Iota} {W : World}
theorem Post.trans {lo : Nat} {K : KT} {r : Value × AMem} {A' : AMem} {ι' : Iota} {W' : World} (h : Ev base A ι W A' ι' W') {e : Exit} {a : Act} {w : World}
    (k : Post P base lo K r A' ι' W' e a w) : Post P base lo K r A ι W e a w := by
  obtain ⟨ae, t, A2, ι2, k1, k2, k3, k4, k5, k6⟩ := k
  exact ⟨ae, t, A2, ι2, k1, k2, k3, k4, k5, h.trans k6⟩
theorem CodeOk.from {c : Code} {ex : KT → List Value → AMem → Res} (h : CodeOk P c ex) {K : KT} {t : List Value} {A' : AMem} {r : Value × AMem} (hk : ex K t A' = some r) {ro : Option Nat} {n lo : Nat}
    {ι' : Iota} {W' : World} {act : Act} (hr : RoundOk ro W') (hs : Sim P base A' ι' W') (ht : LRel A' ι' W' t act.tmps.toList) (hd : DRel lo W' act.defers) (hlo : lo ≤ W'.heap.size) (hb : base ≤ lo)
    (hev : Ev base A ι W A' ι' W') : c.wpIn (FW ro) n P (Post P base lo K r A ι W) act W' :=
  wpIn_mono (h K t A' r hk ro n base lo ι' W' act hr hs ht hd hlo hb) fun _ _ _ q => q.trans hev
theorem seq_ok {c1 c2 : Code} {ex1 ex2 : KT → List Value → AMem → Res} (h1 : CodeOk P c1 ex1) (h2 : CodeOk P c2 ex2) : CodeOk P (.seq c1 c2) (fun K t M => ex1 (seqK (ex2 K) K) t M) := by
  intro K t A r hk ro n base lo ι W act hr hs ht hd hlo hb
  refine wpIn_seq (wpIn_mono (h1 _ t A r hk ro n base lo ι W act hr hs ht hd hlo hb) ?_)
  rintro e a w ⟨ae, t', A', ι', k1, k2, k3, k4, k5, k6⟩
  cases k2 with
  | normal => exact h2.from k1 (hr.ev k6) k3 k4 k5 (Nat.le_trans hlo k6.size) hb k6
  | exit id h => exact ⟨_, t', A', ι', k1, .exit id h, k3, k4, k5, k6⟩
  | goto l => exact ⟨_, t', A', ι', k1, .goto l, k3, k4, k5, k6⟩
  | ret => exact ⟨_, t', A', ι', k1, .ret, k3, k4, k5, k6⟩
theorem block_ok {id : Nat} (hid : id < gotoB) {c : Code} {ex : KT → List Value → AMem → Res} (h : CodeOk P c ex) : CodeOk P (.block id c) (fun K t M => ex (blockK id K) t M) := by
  intro K t A r hk ro n base lo ι W act hr hs ht hd hlo hb
  refine wpIn_block (wpIn_mono (h _ t A r hk ro n base lo ι W act hr hs ht hd hlo hb) ?_)
  rintro e a w ⟨ae, t', A', ι', k1, k2, k3, k4, k5, k6⟩
  cases k2 with
  | normal => exact ⟨_, t', A', ι', k1, .normal, k3, k4, k5, k6⟩
  | exit i hi =>
    simp only [blockK] at k1
    simp only [Exit.inBlock]
    split at k1
    · rename_i he; rw [if_pos he]; exact ⟨_, t', A', ι', k1, .normal, k3, k4, k5, k6⟩
    · rename_i he; rw [if_neg he]; exact ⟨_, t', A', ι', k1, .exit i hi, k3, k4, k5, k6⟩
  | goto l =>
    simp only [blockK] at k1
    rw [if_neg (by omega)] at k1
    exact ⟨_, t', A', ι', k1, .goto l, k3, k4, k5, k6⟩
  | ret => exact ⟨_, t', A', ι', k1, .ret, k3, k4, k5, k6⟩
theorem post_K {lo : Nat} {K K' : KT} {r : Value × AMem} (hK : ∀ e t M, K e t M = some r → ∃ t', K' e t' M = some r ∧ ∀ (A : AMem) (ι : Iota) (W : World) (l : List Value), LRel A ι W t l → LRel A ι W t' l)
    {e : Exit} {a : Act} {w : World} (h : Post P base lo K r A ι W e a w) : Post P base lo K' r A ι W e a w := by
  obtain ⟨ae, t', A', ι', k1, k2, k3, k4, k5, k6⟩ := h
  obtain ⟨t2, q1, q2⟩ := hK _ _ _ k1
  exact ⟨ae, t2, A', ι', q1, k2, k3, q2 _ _ _ _ k4, k5, k6⟩
theorem clear_rel {l : List Value} : ∀ (ts : List Nat) (t : List Value), LRel A ι W t l → LRel A ι W (clearT t ts) l
  | [], t, h => h
  | i :: ts, t, h => by
    refine clear_rel ts _ ?_
    refine ⟨by simp [h.1], fun j u u' a b => ?_⟩
    rw [List.getElem?_set] at a
    split at a
    · split at a
      · cases a; exact .junk _
      · cases a
    · exact h.2 j u u' a b
theorem clear_ok {c : Code} {ex : KT → List Value → AMem → Res} (h : CodeOk P c ex) (ts : List Nat) : CodeOk P c (fun K t M => clearF t ts fun t => ex K t M) := by
  intro K t A r hk ro n base lo ι W act hr hs ht hd hlo hb
  exact h K (clearT t ts) A r (by simpa only [clearF_eq] using hk) ro n base lo ι W act hr hs (clear_rel ts t ht) hd hlo hb
theorem post_ok {c : Code} {ex : KT → List Value → AMem → Res} (h : CodeOk P c ex) (ts : List Nat) : CodeOk P c (fun K t M => ex (postK ts K) t M) := by
  intro K t A r hk ro n base lo ι W act hr hs ht hd hlo hb
  refine wpIn_mono (h _ t A r hk ro n base lo ι W act hr hs ht hd hlo hb) fun e a w q => post_K (fun e t M hk => ?_) q
  cases e with
  | normal => exact ⟨clearT t ts, by simpa only [postK, clearF_eq] using hk, fun A ι W l hl => clear_rel ts t hl⟩
  | exit i => exact ⟨_, hk, fun A ι W l hl => hl⟩
  | ret => exact ⟨_, hk, fun A ι W l hl => hl⟩
theorem stepR_scope {P : Program} {b : Frame} {a : Act} {k : List Item} {cs : List Frame} {w : World} {c : Code} :
    step P (lone (b.atR a (.code (.scope c) :: k)) cs w) = .next (lone (b.atR a (.code c :: .inScope c :: k)) cs w) :=
  step_lone_go (by simp [stepG, stepG.exec, Frame.atR])
theorem stepR_inScope {P : Program} {b : Frame} {a : Act} {k : List Item} {cs : List Frame} {w : World} {c : Code} :
    step P (lone (b.atR a (.inScope c :: k)) cs w) = .next (lone (b.atR a k) cs w) :=
  step_lone_go (by simp [stepG, stepG.exec, Frame.atR])
theorem wpIn_scope_one {F : Fence} {n : Nat} {P : Program} {Q : Exit → Act → World → Prop} {a : Act} {w : World} {c rest : Code} {l : Nat} (hf : findLabel c l = some rest) (hno : ∀ l', l' ≠ l → findLabel c l' = none)
    (h : c.wpIn F n P (fun e a w => match e with
      | .goto l' => if l' = l then rest.wpIn F n P (fun e a w => match e with
          | .goto l' => l' ≠ l ∧ Q (.goto l') a w
          | e => Q e a w) a w else Q (.goto l') a w
      | e => Q e a w) a w) : (Code.scope c).wpIn F n P Q a w := by
  intro b k cs hro hb hr
  have h0 : (lone (b.atR a (.code (.scope c) :: k)) cs w).fenced P F := fenced_calm hb hr rfl
  have hx : ∀ id, exitTo id (.inScope c :: k) = exitTo id k := fun id => by simp [exitTo]
  have hg : gotoIn l (.inScope c :: k) = some (.code rest :: .inScope c :: k) := by simp [gotoIn, hf]
  have hgn : ∀ l', l' ≠ l → gotoIn l' (.inScope c :: k) = gotoIn l' k := fun l' hl => by simp [gotoIn, hno l' hl]
  obtain ⟨e, a₁, w₁, hq, harr⟩ := h b (.inScope c :: k) cs hro hb hr
  cases e with
  | normal => exact ⟨.normal, a₁, w₁, hq, .head h0 stepR_scope (StepsIn.trans harr (.one (fenced_calm hb hr rfl) stepR_inScope))⟩
  | exit id =>
    exact ⟨.exit id, a₁, w₁, hq, fun k' hk => .head h0 stepR_scope (harr.1 k' (by rw [hx]; exact hk)),
      fun hr' hk => let ⟨k₁, h1, h2⟩ := harr.2 hr' (by rw [hx]; exact hk); ⟨k₁, h1, .head h0 stepR_scope h2⟩⟩
  | ret => exact ⟨_, a₁, w₁, hq, .of_steps (.one h0 stepR_scope) harr⟩
  | panic ch => exact ⟨_, a₁, w₁, hq, .of_steps (.one h0 stepR_scope) harr⟩
  | outgrown => exact ⟨_, a₁, w₁, hq, .of_steps (.one h0 stepR_scope) harr⟩
  | goto l' =>
    by_cases hl : l' = l
    · subst hl
      simp only [if_true] at hq
      have hs := harr.1 _ hg
      obtain ⟨e2, a₂, w₂, hq2, harr2⟩ := hq b (.inScope c :: k) cs hro hb hr
      have hst := StepsIn.head h0 (stepR_scope (P := P) (b := b) (a := a) (k := k) (cs := cs) (w := w) (c := c)) hs
      cases e2 with
      | normal => exact ⟨.normal, a₂, w₂, hq2, hst.trans (StepsIn.trans harr2 (.one (fenced_calm hb hr rfl) stepR_inScope))⟩
      | exit id =>
        exact ⟨.exit id, a₂, w₂, hq2, fun k' hk => hst.trans (harr2.1 k' (by rw [hx]; exact hk)),
          fun hr' hk => let ⟨k₁, h1, h2⟩ := harr2.2 hr' (by rw [hx]; exact hk); ⟨k₁, h1, hst.trans h2⟩⟩
      | ret => exact ⟨_, a₂, w₂, hq2, .of_steps hst harr2⟩
      | panic ch => exact ⟨_, a₂, w₂, hq2, .of_steps hst harr2⟩
      | outgrown => exact ⟨_, a₂, w₂, hq2, .of_steps hst harr2⟩
      | goto l2 =>
        exact ⟨.goto l2, a₂, w₂, hq2.2, fun k' hk => hst.trans (harr2.1 k' (by rw [hgn l2 hq2.1]; exact hk)),
          fun hr' hk => let ⟨k₁, h1, h2⟩ := harr2.2 hr' (by rw [hgn l2 hq2.1]; exact hk); ⟨k₁, h1, hst.trans h2⟩⟩
    · simp only [hl, if_false] at hq
      exact ⟨.goto l', a₁, w₁, hq, fun k' hk => .head h0 stepR_scope (harr.1 k' (by rw [hgn l' hl]; exact hk)),
        fun hr' hk => let ⟨k₁, h1, h2⟩ := harr.2 hr' (by rw [hgn l' hl]; exact hk); ⟨k₁, h1, .head h0 stepR_scope h2⟩⟩
theorem scope_ok {c rest : Code} {l : Nat} {ex1 ex2 : KT → List Value → AMem → Res} (hf : findLabel c l = some rest) (hno : ∀ l', l' ≠ l → findLabel c l' = none) (h1 : CodeOk P c ex1) (h2 : CodeOk P rest ex2) :
    CodeOk P (.scope c) (fun K t M => ex1 (scopeK l (ex2 (noK l K)) K) t M) := by
  intro K t A r hk ro n base lo ι W act hr hs ht hd hlo hb
  refine wpIn_scope_one hf hno (wpIn_mono (h1 _ t A r hk ro n base lo ι W act hr hs ht hd hlo hb) ?_)
  rintro e a w ⟨ae, t', A', ι', k1, k2, k3, k4, k5, k6⟩
  cases k2 with
  | normal => exact ⟨_, t', A', ι', k1, .normal, k3, k4, k5, k6⟩
  | exit id h =>
    simp only [scopeK] at k1
    rw [if_neg (by omega)] at k1
    exact ⟨_, t', A', ι', k1, .exit id h, k3, k4, k5, k6⟩
  | ret => exact ⟨_, t', A', ι', k1, .ret, k3, k4, k5, k6⟩
  | goto l' =>
    simp only [scopeK] at k1
    by_cases e : l' = l
    · subst e
      rw [if_pos rfl] at k1
      simp only [if_true]
      refine wpIn_mono (h2.from k1 (hr.ev k6) k3 k4 k5 (Nat.le_trans hlo k6.size) hb k6) ?_
      rintro e2 a2 w2 ⟨ae2, t2, A2, ι2, j1, j2, j3, j4, j5, j6⟩
      cases j2 with
      | normal => exact ⟨_, t2, A2, ι2, j1, .normal, j3, j4, j5, j6⟩
      | exit id h =>
        simp only [noK] at j1
        rw [if_neg (by omega)] at j1
        exact ⟨_, t2, A2, ι2, j1, .exit id h, j3, j4, j5, j6⟩
      | ret => exact ⟨_, t2, A2, ι2, j1, .ret, j3, j4, j5, j6⟩
      | goto l2 =>
        simp only [noK] at j1
        split at j1
        · cases j1
        · rename_i hne
          exact ⟨fun e => hne (by rw [e]), _, t2, A2, ι2, j1, .goto l2, j3, j4, j5, j6⟩
    · rw [if_neg (by omega)] at k1
      simp only [e, if_false]
      exact ⟨_, t', A', ι', k1, .goto l', k3, k4, k5, k6⟩
theorem erase_skip {rec : Rec} : ∀ (b : ACode), erase b = .skip → ∀ (K : KT) (t : List Value) (M : AMem), ∃ t', code rec b K t M = K .normal t' M ∧ ∀ (A : AMem) (ι : Iota) (W : World) (l : List Value), LRel A ι W t l → LRel A ι W t' l := by
  intro b
  induction b with
  | skip => intro _ K t M; exact ⟨t, rfl, fun _ _ _ _ h => h⟩
  | clear ts c ih =>
    intro h K t M
    obtain ⟨t', h1, h2⟩ := ih h K (clearT t ts) M
    exact ⟨t', by simp only [code, clearF_eq]; exact h1, fun A ι W l hl => h2 A ι W l (clear_rel ts t hl)⟩
  | post c ts ih =>
    intro h K t M
    obtain ⟨t', h1, h2⟩ := ih h (postK ts K) t M
    exact ⟨clearT t' ts, by simp only [code]; rw [h1]; simp only [postK, clearF_eq], fun A ι W l hl => clear_rel ts t' (h2 A ι W l hl)⟩
  | _ => intro h; simp [erase] at h
theorem label_ok {rec : Rec} {l id : Nat} {b : ACode} (h : erase b = .skip) : CodeOk P (.label l) (code rec (.block id b)) := by
  intro K t A r hk ro n base lo ι W act hr hs ht hd hlo hb
  obtain ⟨t', h1, h2⟩ := erase_skip (rec := rec) b h (blockK id K) t A
  have hk' : K .normal t' A = some r := by
    have : code rec b (blockK id K) t A = some r := hk
    rw [h1] at this; exact this
  exact wpIn_label ⟨.normal, t', A, ι, hk', .normal, hs, h2 _ _ _ _ ht, hd, .refl _ _ _ _⟩
theorem Sim.setLoop (h : Sim P base A ι W) {a b o : Nat} {l l2 : ALoop} {l' l2' : Loop} (hi : ι a = some (b, o)) (hA : A[a]? = some (.loop l)) (hW : W.heap[b]? = some (.loop l')) (hrel : LoopRel P A ι W l2 l2') :
    Sim P base (A.set a (.loop l2)) ι (W.putObj b (.loop l2')) ∧ Ev base A ι W (A.set a (.loop l2)) ι (W.putObj b (.loop l2')) := by
  have halt := h.lt hi
  have hblt : b < W.heap.size := (Array.getElem?_eq_some_iff.1 hW).1
  obtain ⟨l'', hW2, _, hbase⟩ := h.loop a b o l hi hA
  have hget : ∀ a' : Nat, a' ≠ a → (A.set a (AObj.loop l2))[a']? = A[a']? := fun a' e => by rw [List.getElem?_set, if_neg (Ne.symm e)]
  have hself : (A.set a (AObj.loop l2))[a]? = some (.loop l2) := by rw [List.getElem?_set, if_pos rfl, if_pos halt]
  have hoth : ∀ k, k ≠ b → (W.putObj b (.loop l2')).heap[k]? = W.heap[k]? := fun k hk => World.putObj_heap_other hk
  have hsame := World.putObj_heap_same (o := .loop l2') hblt
  have hsz : ∀ k, szW W k ≤ szW (W.putObj b (.loop l2')) k := fun k => by
    unfold szW
    by_cases e : k = b
    · subst e; rw [hW]; exact Nat.zero_le _
    · rw [hoth k e]; exact Nat.le_refl _
  have hle : Le A ι W (A.set a (.loop l2)) ι (W.putObj b (.loop l2')) := Le.put a b o hget (fun _ _ => rfl) hi ⟨by rw [hA]; simp, .inr hi⟩ (by simp) hsz (fun cs0 m0 e => by rw [hA] at e; cases e)
  refine ⟨h.put a b o _ hget hself (fun _ _ => rfl) hi hle (fun a' o' hne hi' => h.sep a a' b o o' (Ne.symm hne) hi hi' (.inr (.inl ⟨l, hA⟩))) (fun k hk _ => hoth k hk) (by simp) (fun cs m e => by cases e) (fun l0 e => ?_) (fun cs m e => by cases e), ?_⟩
  · cases e
    exact ⟨l2', hsame, hrel.mono hle, hbase⟩
  · refine ⟨hle, ⟨rfl, rfl, rfl, by simp, fun k hk => hoth k (by omega)⟩, fun r ds e => ?_, fun r lr e => ?_⟩
    · by_cases er : r = b
      · subst er; rw [hW] at e; cases e
      · rw [hoth r er]; exact e
    · by_cases er : r = b
      · subst er; exact ⟨l2', hsame⟩
      · exact ⟨lr, by rw [hoth r er]; exact e⟩
theorem Sim.newLoop (h : Sim P base A ι W) (hb : base ≤ W.heap.size) {l : ALoop} {l' : Loop} (hrel : LoopRel P A ι W l l') :
    Sim P base (A ++ [.loop l]) (upd ι A.length W.heap.size 0) (W.alloc (.loop l')) ∧ Ev base A ι W (A ++ [.loop l]) (upd ι A.length W.heap.size 0) (W.alloc (.loop l')) := by
  have hA : ∀ a : Nat, a ≠ A.length → (A ++ [AObj.loop l])[a]? = A[a]? := fun a ha => by
    by_cases hlt : a < A.length
    · rw [List.getElem?_append_left hlt]
    · rw [List.getElem?_eq_none (by simp; omega), List.getElem?_eq_none (by omega)]
  have hx : (A ++ [AObj.loop l])[A.length]? = some (.loop l) := by simp
  have hle : Le A ι W (A ++ [.loop l]) (upd ι A.length W.heap.size 0) (W.alloc (.loop l')) :=
    Le.put A.length W.heap.size 0 hA (upd_other A.length _ _) (upd_same _ _ _) ⟨by simp, .inl ⟨h.fresh, Nat.le_refl _⟩⟩ (by simp) (szW_alloc _) (fun cs0 m0 e => by simp at e)
  obtain ⟨e1, e2, e3⟩ := Ev.alloc_w (W := W) hb (.loop l')
  refine ⟨h.put A.length W.heap.size 0 _ hA hx (upd_other A.length _ _) (upd_same _ _ _) hle (fun a o _ hi => ?_) (fun b _ hlt => Below.heap_alloc _ _ _ hlt) (by simp) (fun cs m e => by cases e) (fun l0 e => ?_) (fun cs m e => by cases e), ⟨hle, e1, e2, e3⟩⟩
  · by_cases hd : A[a]? = some .dead
    · exact hd
    · exact absurd (h.inW hi hd) (Nat.lt_irrefl _)
  · cases e
    exact ⟨l', heap_alloc_self _, hrel.mono hle, hb⟩
theorem rangeFunc_ok {rec : Rec} (hrec : RecOk P rec) {f : Operand} {ps : Array Tmp} {a b : Code} {aa ab : ACode} (ha : comp P a = some (erase aa)) (hb' : comp P b = some (erase ab)) :
    CodeOk P (.rangeFunc f ps a b) (code rec (.rangeFunc f ps.toList aa ab)) := by
  intro K t A r hk ro n base lo ι W act hr hs ht hd hlo hb
  simp only [code] at hk
  split at hk
  · rename_i fn first cap hev
    split at hk
    · rename_i g
      obtain ⟨q, h1, h2⟩ := bsi.1 hk
      split at h2
      · rename_i lr hlr
        split at h2
        · cases h2
        · rename_i hbusy
          refine wpIn_rangeFunc fun fnid _ => ?_
          have enter : ∃ (mark : List Deferred) (W0 : World) (dfb : Nat), (Instr.enterLoop fnid act.tmps ps a b (FW ro).round).run P W = .ok (W0.heap.size, mark) (W0.alloc (.loop { state := .ready, pending := none, fn := fnid, tmps := act.tmps, params := ps, assign := a, body := b, defers := dfb })) ∧
              Sim P base A ι W0 ∧ Ev base A ι W A ι W0 ∧ DRel lo W0 (mark ++ act.defers) := by
            cases ro with
            | none =>
              have e := run_enterLoop_outer (P := P) (w := W) fnid act.tmps ps a b
              obtain ⟨s1, ev1⟩ := hs.allocW (Nat.le_trans hb hlo) (.deferred (some []))
              refine ⟨[{ target := .collected W.heap.size, args := #[] }], W.alloc (.deferred (some [])), W.heap.size, ?_, s1, ev1, ?_⟩
              · rw [show (FW none).round = none from rfl, e]; simp only [World.size_alloc]
              · obtain ⟨rs, d1, d2, d3⟩ := hd
                refine ⟨W.heap.size :: rs, by simp [d1], List.nodup_cons.2 ⟨fun hm => ?_, d2⟩, fun x hx => ?_⟩
                · have := (Array.getElem?_eq_some_iff.1 (d3 _ hm).2).1; omega
                · rcases List.mem_cons.1 hx with rfl | hx
                  · exact ⟨hlo, heap_alloc_self _⟩
                  · exact ⟨(d3 x hx).1, ev1.deferred x _ (d3 x hx).2⟩
            | some l0 =>
              obtain ⟨r0, hr0⟩ := hr l0 rfl
              refine ⟨[], W, r0.defers, ?_, hs, .refl _ _ _ _, by simpa using hd⟩
              rw [show (FW (some l0)).round = some l0 from rfl]
              unfold Instr.enterLoop
              simp only [Sem.run_bind, run_getLoop hr0, Result.andThen_ok, Sem.run_pure, run_newObj]
              rfl
          obtain ⟨mark, W0, dfb, en1, s0, ev0, dr0⟩ := enter
          have ht0 := ht.mono ev0.le
          have hb0 : base ≤ W0.heap.size := Nat.le_trans (Nat.le_trans hb hlo) ev0.size
          have hlrel : LoopRel P A ι W0 ⟨.ready, none, t, ps.toList, aa, ab⟩ { state := .ready, pending := none, fn := fnid, tmps := act.tmps, params := ps, assign := a, body := b, defers := dfb } :=
            ⟨rfl, trivial, ht0, rfl, ha, hb'⟩
          generalize ({ state := .ready, pending := none, fn := fnid, tmps := act.tmps, params := ps, assign := a, body := b, defers := dfb } : Loop) = L at en1 hlrel
          generalize (⟨.ready, none, t, ps.toList, aa, ab⟩ : ALoop) = AL at h1 hlrel
          obtain ⟨s1, ev1⟩ := s0.newLoop hb0 hlrel
          have ev01 := ev0.trans ev1
          have hfv := (ev_rel (ht.mono ev01.le) f : VRel _ _ _ _ _)
          rw [hev] at hfv
          obtain ⟨x', y', hfe, hfx, hfy⟩ := func_inv hfv
          have hyl : VRel (A ++ [.loop AL]) (upd ι A.length W0.heap.size 0) (W0.alloc (.loop L)) (.func (.yield A.length) #[] #[]) (.func (.yield W0.heap.size) #[] #[]) := .yield _ _ (upd_same _ _ _)
          have hall := (hfx.append (LRel.cons hyl LRel.nil)).append hfy
          obtain ⟨hcf, hcalls⟩ := hrec.call g _ _ q h1 base _ _ (x' ++ #[.func (.yield W0.heap.size) #[] #[]] ++ y') s1 (by simpa using hall) (by simp; omega)
          refine ⟨W0.heap.size, mark, W0.alloc (.loop L), { target := .fn (.func g) y', args := x' ++ #[.func (.yield W0.heap.size) #[] #[]] }, W0.alloc (.loop L), g, x' ++ #[.func (.yield W0.heap.size) #[] #[]] ++ y', W0.alloc (.loop L), en1, ?_, fun _ _ => trivial, ?_, fun h => by simp [FW_depth] at h, ?_⟩
          · have ey : act.eval (.const (.func (.yield W0.heap.size) #[] #[])) = .func (.yield W0.heap.size) #[] #[] := rfl
            simp [resolve, rangeCall, hfe, Deferred.ofValue, ey]
          · simp only [invoke]; exact hcf
          · refine CallsIn.mono (callsIn_FW ro _ hcalls) fun e W' he => ?_
            obtain ⟨v', ι2, rfl, s2, ev2, vr⟩ := he
            have hi2 : ι2 A.length = some (W0.heap.size, 0) := by
              rcases ev2.le.live A.length _ _ (upd_same _ _ _) with hdd | h
              · rw [hlr] at hdd; cases hdd
              · exact h
            obtain ⟨lr', hW', hrel', _⟩ := s2.loop _ _ _ _ hi2 hlr
            have hnb : lr'.state ≠ .busy := by rw [hrel'.state]; exact hbusy
            have hend := run_endLoop (P := P) hW' hnb
            have hrel3 : LoopRel P q.2 ι2 W' { lr with state := .exhausted } { lr' with state := .exhausted } := { hrel' with state := rfl }
            obtain ⟨s3, ev3⟩ := s2.setLoop hi2 hlr hW' hrel3
            generalize hWf : W'.putObj W0.heap.size (.loop { lr' with state := .exhausted }) = Wf at hend s3 ev3
            obtain ⟨s4, le4⟩ := s3.kill A.length (by rw [List.getElem?_set]; simp [s2.lt hi2])
            have hset : (q.2.set A.length (AObj.loop { lr with state := .exhausted })).set A.length .dead = q.2.set A.length .dead := by rw [List.set_set]
            rw [hset] at s4 le4
            have ev4 : Ev base A ι W (q.2.set A.length .dead) ι2 Wf :=
              ((ev01.trans ev2).trans ev3).trans ⟨le4, .refl _ _, fun _ _ h => h, fun _ l h => ⟨l, h⟩⟩
            have ev04 : Ev base A ι W0 (q.2.set A.length .dead) ι2 Wf :=
              ((ev1.trans ev2).trans ev3).trans ⟨le4, .refl _ _, fun _ _ h => h, fun _ l h => ⟨l, h⟩⟩
            have dr4 := dr0.ev ev04
            have ht4 : LRel (q.2.set A.length .dead) ι2 Wf t act.tmps.toList := ht.mono ev4.le
            refine ⟨lr'.pending, _, hend, ?_⟩
            have hp := hrel'.pend
            split at h2
            · rename_i hpn
              rw [hpn] at hp
              cases hpl : lr'.pending with
              | none => exact ⟨.normal, t, _, ι2, h2, .normal, s4, ht4, dr4, ev4⟩
              | some c => rw [hpl] at hp; exact hp.elim
            · rename_i ee hpn
              rw [hpn] at hp
              cases hpl : lr'.pending with
              | none => rw [hpl] at hp; cases ee <;> exact hp.elim
              | some c =>
                rw [hpl] at hp
                cases ee with
                | normal => cases c <;> exact hp.elim
                | exit i =>
                  cases c with
                  | exit j => obtain ⟨rfl, hlt⟩ : i = j ∧ i < gotoB := hp; exact wpIn_exit ⟨.exit i, t, _, ι2, h2, .exit i hlt, s4, ht4, dr4, ev4⟩
                  | goto l => have : i = gotoB + l := hp; subst this; exact wpIn_goto ⟨.exit (gotoB + l), t, _, ι2, h2, .goto l, s4, ht4, dr4, ev4⟩
                  | _ => exact hp.elim
                | ret =>
                  cases c with
                  | ret => exact wpIn_ret ⟨.ret, t, _, ι2, h2, .ret, s4, ht4, dr4, ev4⟩
                  | _ => exact hp.elim
      · cases h2
    · cases hk
  · cases hk
end
end Go.Ax
