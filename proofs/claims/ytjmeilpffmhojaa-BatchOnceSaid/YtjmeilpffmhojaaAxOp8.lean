/- copy; equality of structs and arrays as an operation; all operations but calls. -/
import Derived.Test.YtjmeilpffmhojaaAxEq
set_option linter.unusedVariables false
set_option linter.unusedSimpArgs false
namespace Go.Ax
open Go Go.RowKit

section
variable {P : Program} {base : Nat} {rec : Rec} {oc : Oper}

theorem eqAgg_ok {o : BinOp} {xT yT : TypeId} {x y : Operand} {lfs : List Leaf} (hT : eqTy P 20 xT = some lfs) (hagg : isAggT P xT = true) (hg : P.eqGuardType P.depth xT = false) (ho : o = .eql ∨ o = .neq)
    (h : oc.op = .binOp o xT x y yT) : OpOk P base rec oc (.eqAgg lfs (o = .neq) x y) := by
  intro tt A ι W act K r hs ht hb hk
  have hx := ev_rel ht x
  have hy := ev_rel ht y
  simp only [opK] at hk
  split at hk
  · rename_i a b e1 e2
    rw [e1] at hx; rw [e2] at hy
    obtain ⟨q, h1, h2⟩ := Option.bind_eq_some_iff.1 hk
    have hae := allEq_of _ _ _ _ h1
    obtain ⟨f1, f2⟩ := hae.flat
    have hx' := flatV_eq hx f1
    have hy' := flatV_eq hy f2
    have hrun := equalIn_ok 20 xT lfs hT 10000 (.agg a) (.agg b) a.toList b.toList q (by omega) (by unfold Shaped; rw [if_pos hagg]) (by unfold Shaped; rw [if_pos hagg]) hae W
    have hgd := run_eqGuard_agg (P := P) W o xT x y a b hg
    refine ⟨_, A, h2, .pure hs (v' := .bool (if o = .neq then !q else q)) ?_ (by by_cases e : o = .neq <;> simp [e] <;> exact .flat _ rfl)⟩
    simp only [execOp, h, ← hx', ← hy']
    rw [Sem.run_bind, Sem.run_bind, hgd]
    simp only [Result.andThen_ok]
    rcases ho with rfl | rfl
    · rw [run_eql_struct, hrun]; rfl
    · rw [run_neq_struct, hrun]; rfl
  · cases hk

theorem copy_ok {T xT e : TypeId} {n : Nat} {c0 : Call} (h : oc.op = .call c0) (hc : c0.callee = .builtin .copy) {x y : Operand} (hargs : c0.args.toList = [x, y]) (htys : c0.argTypes.toList = [T, xT])
    (hT : P.underlying T = some (.slice e)) (hn : sizeT P e = some n) : OpOk P base rec oc (.copy n x y) := by
  intro tt A ι W act K r hs ht hb hk
  have hx := ev_rel ht x
  have hy := ev_rel ht y
  have ht0 : c0.argTypes = #[T, xT] := by rw [← Array.toArray_toList (xs := c0.argTypes), htys]
  have hex : (execOp act.eval oc).run P W = ((Builtin.copy_ #[T, xT] oc.type #[act.eval x, act.eval y]).run P W).andThen fun v w => .ok (.value v) w := by
    rw [exec_call h]
    simp [resolve, hc, args_of hargs, invoke, builtin, ht0]
  simp only [opK] at hk
  split at hk
  · rename_i p ln c e1
    rw [e1] at hx
    obtain ⟨m, l1, hk1⟩ := Option.bind_eq_some_iff.1 hk
    clear hk
    obtain ⟨row, l2, hk⟩ := Option.bind_eq_some_iff.1 hk1
    clear hk1
    unfold copyK at hk
    have hrl := rowOf_leaf hs hy l2
    obtain ⟨q, cm, row', hyv, hnl, hnr, _, hcells, hnone⟩ := rowOf_ok hs hy l1 l2
    split at hk
    · rename_i h0
      obtain ⟨qd, c', hxv⟩ := slice_any hx
      refine ⟨_, A, hk, .pure hs (v' := .int .i64 0) ?_ (.flat _ rfl)⟩
      rw [hex, hxv, hyv]
      have hf : (Builtin.firstCells n 0 (.slice q m cm)).run P W = .ok #[] W := by
        cases q with
        | none => rfl
        | some a => simp [Builtin.firstCells, loadCells, loadCellsFrom]
      have h0' : Nat.min m ln = 0 := h0
      cases qd <;> simp [Builtin.copy_, run_underlying hT, Builtin.lenOf, h0', run_sizeOf hn, hf, storeCells, goInt]
    · rename_i h0
      split at hk
      · rename_i p
        obtain ⟨A', k1, k2⟩ := Option.bind_eq_some_iff.1 hk
        obtain ⟨qd, c', hxv, hle, hm⟩ := slice_inv hx
        obtain ⟨cs, mt, hA, _⟩ := wr_inv k1
        have hln : ¬ ln = 0 := fun e => h0 (by rw [e]; simp)
        rcases hm with ⟨h1, _⟩ | ⟨hsp, hd | ⟨b, o, hib, rfl, _⟩⟩
        · exact absurd h1 hln
        · rw [hA] at hd; cases hd
        · have htk := hnr.take (Nat.min m ln * n)
          have hlk : (row.take (Nat.min m ln * n)).all leafV = true := by
            rw [List.all_eq_true] at hrl ⊢
            exact fun v hv => hrl v (List.mem_of_mem_take hv)
          obtain ⟨W', s1, s2, s3⟩ := hs.write hib k1 htk hlk
          refine ⟨_, A', k2, _, .int .i64 (Nat.min m ln), W', ι, ?_, .inl rfl, s2, s3, .flat _ rfl⟩
          rw [hex, hxv, hyv]
          cases q with
          | none => exact absurd (by rw [hnone rfl]; simp) h0
          | some a =>
            have hlen : (row'.take (Nat.min m ln * n)).length = Nat.min m ln * n := by
              rw [List.length_take, ← hnr.1, hnl]
              exact Nat.min_eq_left (Nat.mul_le_mul_right _ (Nat.min_le_left _ _))
            have hl := run_loadCells_list (P := P) W a (row'.take (Nat.min m ln * n)) (fun j v e => by
              rw [List.getElem?_take] at e
              split at e
              · exact hcells a rfl j v e
              · cases e)
            rw [hlen] at hl
            simp [Builtin.copy_, run_underlying hT, Builtin.lenOf, run_sizeOf hn, Builtin.firstCells, hl, s1, goInt]
      · cases hk
  · cases hk

def notCall : AOp → Bool
  | .call _ _ _ _ _ => false
  | _ => true

theorem new_alloc (z : List Value) (t : List Value) (A : AMem) (K : Value → AMem → Res) : opK rec (.alloc z) t A K = newK (.alloc z) t fun mk blk => K (mk A.length) (A ++ [blk]) := rfl

/-- Operations that make a block: what is asked of them. -/
theorem news_ok {op : AOp} (h : compOp P oc = some op) (hk : (∃ z, op = .alloc z) ∨ (∃ x, op = .box x) ∨ (∃ a b z l c, op = .makeSlice a b z l c) ∨ (∃ a b z l, op = .buildSlice a b z l)) : NewsOk P oc op := by
  obtain ⟨dst, o, ty, pos, after, guard⟩ := oc
  have hop : ∀ (o' : Op), (({ dst, op := o, type := ty, pos, after, guard } : Oper).op = o') = (o = o') := fun _ => rfl
  cases o with
  | alloc e =>
    simp only [compOp] at h
    obtain ⟨z, h1, h2⟩ := Option.map_eq_some_iff.1 h
    subst h2
    exact alloc_new rfl h1
  | box e x =>
    simp only [compOp] at h
    cases h
    exact box_new rfl
  | makeSlice T l c =>
    simp only [compOp] at h
    split at h
    · rename_i e hT
      obtain ⟨z, h1, h2⟩ := Option.bind_eq_some_iff.1 h
      obtain ⟨i, h3, h4⟩ := Option.bind_eq_some_iff.1 h2
      split at h4
      · rename_i hp
        cases h4
        exact makeSlice_new rfl hT h1 h3 hp
      · cases h4
    · cases h
  | buildSlice T len ps =>
    simp only [compOp] at h
    split at h
    · rename_i e hT
      obtain ⟨z, h1, h2⟩ := Option.bind_eq_some_iff.1 h
      obtain ⟨n, h3, h4⟩ := Option.bind_eq_some_iff.1 h2
      split at h4
      · rename_i hp
        obtain ⟨qs, h5, h6⟩ := Option.map_eq_some_iff.1 h4
        subst h6
        exact buildSlice_new rfl hT h3 h1 hp.1 hp.2 h5
      · cases h4
    · cases h
  | _ =>
    exfalso
    rcases hk with ⟨z, rfl⟩ | ⟨x, rfl⟩ | ⟨a, b, z, l, c, rfl⟩ | ⟨a, b, z, l, rfl⟩ <;> simp only [compOp, nilCmp] at h <;> (repeat' split at h) <;> simp_all [Option.bind_eq_some_iff, Option.map_eq_some_iff]

theorem op_ok {op : AOp} (h : compOp P oc = some op) (hk : notCall op = true) : OpOk P base rec oc op := by
  obtain ⟨dst, o, ty, pos, after, guard⟩ := oc
  cases o with
  | move x => cases h; exact mv_ok (.inl rfl)
  | assign x => cases h; exact mv_ok (.inr rfl)
  | pick c a b => cases h; exact pick_ok rfl
  | alloc e =>
    have h' := h
    simp only [compOp] at h'
    obtain ⟨z, h1, h2⟩ := Option.map_eq_some_iff.1 h'
    subst h2
    exact new_ok (alloc_new rfl h1) (fun _ _ _ => rfl)
  | box e x => cases h; exact new_ok (box_new rfl) (fun _ _ _ => rfl)
  | build T ps =>
    simp only [compOp] at h
    split at h
    · rename_i fs hT
      split at h
      · rename_i hall
        obtain ⟨z, h1, h2⟩ := Option.bind_eq_some_iff.1 h
        obtain ⟨qs, h5, h6⟩ := Option.map_eq_some_iff.1 h2
        subst h6
        exact build_struct_ok rfl hT hall h1 h5
      · cases h
    · rename_i len e hT
      obtain ⟨z, h1, h2⟩ := Option.bind_eq_some_iff.1 h
      obtain ⟨n, h3, h4⟩ := Option.bind_eq_some_iff.1 h2
      obtain ⟨qs, h5, h6⟩ := Option.map_eq_some_iff.1 h4
      subst h6
      exact build_array_ok rfl hT h3 h1 h5
    · cases h
  | buildSlice T len ps =>
    have h' := h
    simp only [compOp] at h'
    split at h'
    · rename_i e hT
      obtain ⟨z, h1, h2⟩ := Option.bind_eq_some_iff.1 h'
      obtain ⟨n, h3, h4⟩ := Option.bind_eq_some_iff.1 h2
      split at h4
      · rename_i hp
        obtain ⟨qs, h5, h6⟩ := Option.map_eq_some_iff.1 h4
        subst h6
        exact new_ok (buildSlice_new rfl hT h3 h1 hp.1 hp.2 h5) (fun _ _ _ => rfl)
      · cases h4
    · cases h'
  | makeSlice T l c =>
    simp only [compOp] at h
    split at h
    · rename_i e hT
      obtain ⟨z, h1, h2⟩ := Option.bind_eq_some_iff.1 h
      obtain ⟨i, h3, h4⟩ := Option.bind_eq_some_iff.1 h2
      split at h4
      · rename_i hp
        cases h4
        exact new_ok (makeSlice_new rfl hT h1 h3 hp) (fun _ _ _ => rfl)
      · cases h4
    · cases h
  | load t a =>
    simp only [compOp] at h
    obtain ⟨x, h1, h2⟩ := Option.map_eq_some_iff.1 h
    subst h2
    exact load_ok rfl h1
  | store t a x =>
    simp only [compOp] at h
    obtain ⟨n, h1, h2⟩ := Option.map_eq_some_iff.1 h
    subst h2
    exact store_ok rfl h1
  | nilCheck x => cases h; exact nilCheck_ok rfl
  | binOp o xT x y yT =>
    simp only [compOp] at h
    have nc : ∀ d, P.underlying xT = some d → nilCmp o d x y = some op → OpOk P base rec { dst, op := .binOp o xT x y yT, type := ty, pos, after, guard } op := by
      intro d hT hn
      unfold nilCmp at hn
      split at hn
      · rename_i ho
        split at hn
        · rename_i k hk1
          cases hn
          exact eqNil_ok hT ho rfl (.inl ⟨hk1, rfl⟩)
        · split at hn
          · rename_i k hk1
            cases hn
            exact eqNil_ok hT ho rfl (.inr ⟨hk1, rfl⟩)
          · cases hn
      · cases hn
    split at h
    · cases h; exact bin_ok rfl
    · rename_i hT
      split at h
      · rename_i ho; cases h; exact binB_ok hT (.inl ⟨ho, rfl⟩) rfl
      · split at h
        · rename_i ho; cases h; exact binB_ok hT (.inr ⟨ho, rfl⟩) rfl
        · cases h
    · rename_i e hT; exact nc _ hT h
    · rename_i e hT; exact nc _ hT h
    · rename_i e1 e2 e3 hT; exact nc _ hT h
    · rename_i fs hT
      split at h
      · rename_i hc
        obtain ⟨l, h1, h2⟩ := Option.map_eq_some_iff.1 h
        subst h2
        exact eqAgg_ok h1 (by simp [isAggT, hT]) hc.2 hc.1 rfl
      · cases h
    · rename_i ln e hT
      split at h
      · rename_i hc
        obtain ⟨l, h1, h2⟩ := Option.map_eq_some_iff.1 h
        subst h2
        exact eqAgg_ok h1 (by simp [isAggT, hT]) hc.2 hc.1 rfl
      · cases h
    · cases h
  | unOp o xT x => cases h; exact un_ok rfl
  | convert src dst x =>
    simp only [compOp] at h
    split at h
    · rename_i h1 h2
      cases h
      exact conv_ok rfl h1 h2
    · cases h
  | makeFunc fn a b =>
    cases fn with
    | func g => cases h; exact makeFunc_ok rfl
    | _ => simp [compOp] at h
  | slice T x lo hi mx =>
    simp only [compOp] at h
    split at h
    · rename_i e hT
      split at h
      · obtain ⟨n, h1, h2⟩ := Option.map_eq_some_iff.1 h
        subst h2
        exact slice_ok rfl hT h1
      · split at h
        · split at h
          · rename_i hs
            cases h
            obtain ⟨n, hn⟩ := Option.isSome_iff_exists.1 hs
            exact slice0_ok rfl hT hn
          · cases h
        · cases h
    · rename_i n e hT
      split at h
      · rename_i hm
        obtain ⟨m, h1, h2⟩ := Option.map_eq_some_iff.1 h
        subst h2
        have : mx = none := by simpa using hm
        subst this
        exact sliceArr_ok rfl (.inl hT) h1
      · cases h
    · rename_i a hT
      split at h
      · rename_i n e hT2
        split at h
        · rename_i hm
          obtain ⟨m, h1, h2⟩ := Option.map_eq_some_iff.1 h
          subst h2
          have : mx = none := by simpa using hm
          subst this
          exact sliceArr_ok rfl (.inr ⟨a, hT, hT2⟩) h1
        · cases h
      · cases h
    · cases h
  | fieldAddr s x f =>
    simp only [compOp] at h
    split at h
    · rename_i fs hT
      obtain ⟨fd, h1, h2⟩ := Option.bind_eq_some_iff.1 h
      obtain ⟨n, h3, h4⟩ := Option.bind_eq_some_iff.1 h2
      split at h4
      · rename_i hp
        cases h4
        exact fieldAddr_ok rfl hT h1 h3 hp
      · cases h4
    · cases h
  | field s x f =>
    simp only [compOp] at h
    split at h
    · rename_i fs hT
      obtain ⟨fd, h1, h2⟩ := Option.bind_eq_some_iff.1 h
      obtain ⟨n, h3, h4⟩ := Option.bind_eq_some_iff.1 h2
      split at h4
      · rename_i hs
        cases h4
        obtain ⟨D, hD⟩ := Option.isSome_iff_exists.1 hs
        exact field_ok rfl hT h1 h3 hD
      · cases h4
    · cases h
  | indexAddr T x i =>
    simp only [compOp] at h
    split at h
    · rename_i e hT
      obtain ⟨n, h1, h2⟩ := Option.map_eq_some_iff.1 h
      subst h2
      exact indexAddr_ok rfl hT h1
    · rename_i ln e hT
      obtain ⟨n, h1, h2⟩ := Option.map_eq_some_iff.1 h
      subst h2
      exact indexArr_ok rfl hT h1
    · cases h
  | index T x i =>
    simp only [compOp] at h
    split at h
    · rename_i ln e hT
      obtain ⟨n, h1, h2⟩ := Option.bind_eq_some_iff.1 h
      split at h2
      · rename_i hs
        cases h2
        obtain ⟨D, hD⟩ := Option.isSome_iff_exists.1 hs
        exact index_ok rfl hT h1 hD
      · cases h2
    · rename_i hT
      cases h
      exact indexStr_ok rfl hT
    · cases h
  | extract x i => cases h; exact extract_ok rfl
  | call c0 =>
    simp only [compOp] at h
    split at h
    · rename_i hc
      split at h
      · rename_i t x h1 h2
        split at h
        · rename_i e hT; cases h; exact len_ok rfl hc h2 h1 hT
        · rename_i hT; cases h; exact lenS_ok rfl hc h2 h1 hT
        · rename_i n e hT; cases h; exact lenC_ok rfl hc h2 h1 (.inl ⟨e, hT⟩)
        · rename_i a hT
          split at h
          · rename_i n e hT2; cases h; exact lenC_ok rfl hc h2 h1 (.inr ⟨a, e, hT, hT2⟩)
          · cases h
        · cases h
      · cases h
    · rename_i hc
      split at h
      · rename_i s u x y h1 h2
        split at h
        · rename_i e e2 hT hT2
          obtain ⟨i, h3, h4⟩ := Option.bind_eq_some_iff.1 h
          split at h4
          · rename_i hp
            cases h4
            exact append_ok rfl hc h2 h1 hT hT2 h3 hp.1 hp.2
          · cases h4
        · cases h
      · cases h
    · rename_i hc
      split at h
      · rename_i s u x y h1 h2
        split at h
        · rename_i e e2 hT hT2
          obtain ⟨n, h3, h4⟩ := Option.bind_eq_some_iff.1 h
          split at h4
          · cases h4
            exact copy_ok rfl hc h2 h1 hT h3
          · cases h4
        · cases h
      · cases h
    · rename_i hc; cases h; exact minmax_ok (mx := false) rfl hc
    · rename_i hc; cases h; exact minmax_ok (mx := true) rfl hc
    · obtain ⟨r, h1, h2⟩ := Option.map_eq_some_iff.1 h
      subst h2
      simp [notCall] at hk
    · cases h
  | _ => simp [compOp] at h

end
end Go.Ax
