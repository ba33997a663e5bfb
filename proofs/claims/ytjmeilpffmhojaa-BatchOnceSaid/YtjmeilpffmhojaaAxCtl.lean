/- Calls, guards, operations in a row. -/
import Derived.Test.YtjmeilpffmhojaaAxOp8
import Derived.RangeFuncRecord
import Derived.RangeFuncCalls
set_option linter.unusedVariables false
set_option linter.unusedSimpArgs false
namespace Go.Ax
open Go Go.RowKit

/-- The wide fence, in a round or not. -/
def FW (ro : Option Nat) : Fence := { Fence.wide with round := ro }

theorem FW_none : FW none = Fence.wide := rfl
theorem FW_depth (ro : Option Nat) : (FW ro).depth = none := rfl

def RoundOk (ro : Option Nat) (W : World) : Prop := ∀ l, ro = some l → ∃ r, W.heap[l]? = some (.loop r)

def DRel (lo : Nat) (W : World) (ds : List Deferred) : Prop :=
  ∃ rs : List Nat, ds = rs.map (fun r => ({ target := .collected r, args := #[] } : Deferred)) ∧ rs.Nodup ∧ ∀ r ∈ rs, lo ≤ r ∧ W.heap[r]? = some (.deferred (some []))

inductive ERel : AExit → Exit → Prop
  | normal : ERel .normal .normal
  | exit (id : Nat) : ERel (.exit id) (.exit id)
  | ret : ERel .ret .ret

section
variable {P : Program} {base : Nat} {A : AMem} {ι : Iota} {W : World}

theorem RoundOk.ev {ro : Option Nat} {A' : AMem} {ι' : Iota} {W' : World} (h : RoundOk ro W) (e : Ev base A ι W A' ι' W') : RoundOk ro W' := fun l hl => by
  obtain ⟨r, hr⟩ := h l hl
  exact e.loops l r hr

theorem DRel.ev {lo : Nat} {ds : List Deferred} {A' : AMem} {ι' : Iota} {W' : World} (h : DRel lo W ds) (e : Ev base A ι W A' ι' W') : DRel lo W' ds := by
  obtain ⟨rs, h1, h2, h3⟩ := h
  exact ⟨rs, h1, h2, fun r hr => ⟨(h3 r hr).1, e.deferred r _ (h3 r hr).2⟩⟩

theorem Ev.size {A' : AMem} {ι' : Iota} {W' : World} (e : Ev base A ι W A' ι' W') : W.heap.size ≤ W'.heap.size := e.below.size

/-- What a body, or a piece of one, comes to. -/
def Post (P : Program) (base lo : Nat) (K : KT) (r : Value × AMem) (A : AMem) (ι : Iota) (W : World) : Exit → Act → World → Prop := fun e a W' =>
  ∃ ae t' A' ι', K ae t' A' = some r ∧ ERel ae e ∧ Sim P base A' ι' W' ∧ LRel A' ι' W' t' a.tmps.toList ∧ DRel lo W' a.defers ∧ Ev base A ι W A' ι' W'

def CallPost (P : Program) (base : Nat) (A : AMem) (ι : Iota) (W : World) (r : Value × AMem) : Ending → World → Prop := fun e W' =>
  ∃ v' ι', e = .returned v' ∧ Sim P base r.2 ι' W' ∧ Ev base A ι W r.2 ι' W' ∧ VRel r.2 ι' W' r.1 v'

def CodeOk (P : Program) (c : Code) (ex : KT → List Value → AMem → Res) : Prop :=
  ∀ (K : KT) (t : List Value) (A : AMem) (r : Value × AMem), ex K t A = some r → ∀ (ro : Option Nat) (n base lo : Nat) (ι : Iota) (W : World) (act : Act),
    RoundOk ro W → Sim P base A ι W → LRel A ι W t act.tmps.toList → DRel lo W act.defers → lo ≤ W.heap.size → base ≤ lo →
    c.wpIn (FW ro) n P (Post P base lo K r A ι W) act W

structure RecOk (P : Program) (rec : Rec) : Prop where
  call : ∀ (f : FuncId) (args : List Value) (A : AMem) (r : Value × AMem), rec.call f args A = some r → ∀ (base : Nat) (ι : Iota) (W : World) (args' : Array Value),
    Sim P base A ι W → LRel A ι W args args'.toList → base ≤ W.heap.size →
    (callFunc f args').run P W = .ok (.enter f args') W ∧ Calls P f args' W (CallPost P base A ι W r)
  round : ∀ (l : Nat) (args : List Value) (A : AMem) (r : Value × AMem), rec.round l args A = some r → ∀ (base : Nat) (ι : Iota) (W : World) (args' : Array Value) (l' : Nat),
    Sim P base A ι W → LRel A ι W args args'.toList → base ≤ W.heap.size → VRel A ι W (.func (.yield l) #[] #[]) (.func (.yield l') #[] #[]) →
    ∃ fn tmps assign body, (Instr.yield l' args').run P W = .ok (.round l' fn tmps assign body) W ∧ ∀ n, RoundIn Fence.wide n P l' fn tmps assign body W (CallPost P base A ι W r)
  loop : ∀ (b : ACode) (c : Code), comp P c = some (erase b) → CodeOk P (.loop c) (rec.loop b)

theorem comp_not_defer {oc : Oper} {op : AOp} (h : compOp P oc = some op) : ∀ c, oc.op ≠ .defer c := by
  intro c hc
  simp [compOp, hc] at h

theorem about_wide (ro : Option Nat) (oc : Oper) (w : World) (ρ : Operand → Value) : ∀ f, oc.about P w ρ = some f → (FW ro).fn f := fun _ _ => trivial

/-- No address in it, a tuple's parts too. -/
def flatR : Value → Bool
  | .tuple cs => cs.toList.all flatV
  | v => flatV v

theorem flatR_rel {v v' : Value} (h : flatR v = true) (k : VRel A ι W v v') {A' : AMem} {ι' : Iota} {W' : World} : VRel A' ι' W' v v' := by
  have key : flatV v = true → VRel A' ι' W' v v' := fun hf => by rw [← flatV_eq k hf]; exact VRel.flatV' hf
  cases v with
  | tuple cs =>
    obtain ⟨x', rfl, hx⟩ := tuple_inv k
    refine .tuple _ _ (by simpa using hx.1) fun j u u' e e' => ?_
    have huu := hx.2 j u u' (by simpa using e) (by simpa using e')
    have hf : flatV u = true := by
      simp only [flatR, List.all_eq_true] at h
      exact h u (Array.mem_toList_iff.2 (Array.mem_of_getElem? e))
    rw [← flatV_eq huu hf]
    exact VRel.flatV' hf
  | _ => exact key h

theorem ldLeaf_flat {lf : Leaf} (hl : flatLf lf = true) {src : Option Value} {K : Value → Res} {r : Value × AMem} (h : ldLeaf lf src K = some r) : ∃ u w, src = some w ∧ K u = some r ∧ Sub u w ∧ flatLeaf u = true := by
  cases lf with
  | int k =>
    simp only [ldLeaf, Option.bind_eq_some_iff] at h
    obtain ⟨n, h1, h2⟩ := h
    unfold intOf? at h1
    split at h1
    · split at h1
      · rename_i k' m hk
        cases h1; subst hk
        exact ⟨_, _, rfl, h2, Sub.refl _, rfl⟩
      · cases h1
    · cases h1
  | bool =>
    simp only [ldLeaf, Option.bind_eq_some_iff] at h
    obtain ⟨n, h1, h2⟩ := h
    unfold boolOf? at h1
    split at h1
    · cases h1; exact ⟨_, _, rfl, h2, Sub.refl _, rfl⟩
    · cases h1
  | str =>
    simp only [ldLeaf, Option.bind_eq_some_iff] at h
    obtain ⟨n, h1, h2⟩ := h
    unfold strOf? at h1
    split at h1
    · cases h1; exact ⟨_, _, rfl, h2, Sub.refl _, rfl⟩
    · cases h1
  | _ => simp [flatLf] at hl

theorem ldLeaves_flat {get : Nat → Option Value} {r : Value × AMem} : ∀ (lfs : List Leaf) (i : Nat) (K : List Value → Res), lfs.all flatLf = true → ldLeaves get lfs i K = some r →
    ∃ us ws : List Value, us.length = lfs.length ∧ ws.length = lfs.length ∧ K us = some r ∧ us.all flatLeaf = true ∧ (∀ j w, ws[j]? = some w → get (i + j) = some w) ∧
      ∀ (j : Nat) (u w : Value), us[j]? = some u → ws[j]? = some w → Sub u w
  | [], i, K, _, h => ⟨[], [], rfl, rfl, h, rfl, fun j w e => by simp at e, fun j u w e => by simp at e⟩
  | lf :: rest, i, K, hf, h => by
    simp only [ldLeaves] at h
    simp only [List.all_cons, Bool.and_eq_true] at hf
    obtain ⟨u, w, h1, h2, h3, h4⟩ := ldLeaf_flat hf.1 h
    obtain ⟨us, ws, k1, k2, k3, k4, k5, k6⟩ := ldLeaves_flat rest (i + 1) _ hf.2 h2
    refine ⟨u :: us, w :: ws, by simp [k1], by simp [k2], k3, by simp only [List.all_cons, h4, k4, Bool.and_self], fun j x e => ?_, fun j x y e e' => ?_⟩
    · cases j with
      | zero => simp at e; subst e; simpa using h1
      | succ j => simp at e; have := k5 j x e; rw [← this]; congr 1; omega
    · cases j with
      | zero => simp at e e'; subst e; subst e'; exact h3
      | succ j => simp at e e'; exact k6 j x y e e'

theorem view1_flat {ty : Bool × List Leaf} (hf : flatTy ty = true) {v : Value} {K : Value → Res} {r : Value × AMem} (h : view1 ty v K = some r) : ∃ u, K u = some r ∧ Sub u v ∧ flatV u = true := by
  obtain ⟨g, lfs⟩ := ty
  unfold view1 at h
  cases g with
  | true =>
    simp only [if_true] at h
    obtain ⟨cs, h1, h2⟩ := Option.bind_eq_some_iff.1 h
    unfold aggOf? at h1
    split at h1
    · rename_i x
      split at h1
      · rename_i hsz0
        have hsz : x.size = lfs.length := hsz0
        cases h1
        obtain ⟨us, ws, k1, k2, k3, k4, k5, k6⟩ := ldLeaves_flat _ _ _ hf h2
        have k2' : ws.length = lfs.length := k2
        refine ⟨_, k3, fun A ι W v' hv => ?_, by simpa [flatV] using k4⟩
        obtain ⟨x', rfl, hx⟩ := agg_inv hv
        have hws : ws = x.toList := by
          refine List.ext_getElem? fun j => ?_
          by_cases hj : j < ws.length
          · have := k5 j _ (List.getElem?_eq_getElem hj)
            rw [List.getElem?_eq_getElem hj]; rw [Nat.zero_add] at this; exact this.symm
          · rw [List.getElem?_eq_none (by omega), List.getElem?_eq_none (by simp only [Array.length_toList]; omega)]
        subst hws
        exact agg_of_LRel (LRel.sub (k1.trans k2.symm) k6 hx)
      · cases h1
    · cases h1
  | false =>
    simp only [Bool.false_eq_true, if_false] at h
    split at h
    · rename_i lf
      have hfl : flatLf lf = true := by simpa [flatTy] using hf
      obtain ⟨u, w, h1, h2, h3, h4⟩ := ldLeaf_flat hfl h
      cases h1
      refine ⟨u, h2, h3, ?_⟩
      cases u with
      | agg cs => simp [flatLeaf] at h4
      | _ => exact h4
    · cases h

theorem viewN_flat {cs : List Value} {r : Value × AMem} : ∀ (ret : List (Bool × List Leaf)) (i : Nat) (K : List Value → Res), ret.all flatTy = true → viewN cs ret i K = some r →
    ∃ us ws : List Value, us.length = ret.length ∧ ws.length = ret.length ∧ K us = some r ∧ us.all flatV = true ∧ (∀ j w, ws[j]? = some w → cs[i + j]? = some w) ∧
      ∀ (j : Nat) (u w : Value), us[j]? = some u → ws[j]? = some w → Sub u w
  | [], i, K, _, h => ⟨[], [], rfl, rfl, h, rfl, fun j w e => by simp at e, fun j u w e => by simp at e⟩
  | ty :: rest, i, K, hf, h => by
    simp only [viewN] at h
    simp only [List.all_cons, Bool.and_eq_true] at hf
    obtain ⟨w, h1, h2⟩ := Option.bind_eq_some_iff.1 h
    obtain ⟨u, h3, h4, h5⟩ := view1_flat hf.1 h2
    obtain ⟨us, ws, k1, k2, k3, k4, k5, k6⟩ := viewN_flat rest (i + 1) _ hf.2 h3
    refine ⟨u :: us, w :: ws, by simp [k1], by simp [k2], k3, by simp only [List.all_cons, h5, k4, Bool.and_self], fun j x e => ?_, fun j x y e e' => ?_⟩
    · cases j with
      | zero => simp at e; subst e; simpa using h1
      | succ j => simp at e; have := k5 j x e; rw [← this]; congr 1; omega
    · cases j with
      | zero => simp at e e'; subst e; subst e'; exact h4
      | succ j => simp at e e'; exact k6 j x y e e'

theorem view_flat {ret : List (Bool × List Leaf)} {single : Bool} (hf : ret.all flatTy = true) {v : Value} {K : Value → Res} {r : Value × AMem} (h : view ret single v K = some r) :
    ∃ u, K u = some r ∧ Sub u v ∧ flatR u = true := by
  unfold view at h
  cases single with
  | true =>
    simp only [if_true] at h
    split at h
    · rename_i ty
      obtain ⟨u, h1, h2, h3⟩ := view1_flat (by simpa using hf) h
      refine ⟨u, h1, h2, ?_⟩
      cases u with
      | tuple cs => simp [flatV, flatLeaf] at h3
      | _ => exact h3
    · cases h
  | false =>
    simp only [Bool.false_eq_true, if_false] at h
    obtain ⟨cs, h1, h2⟩ := Option.bind_eq_some_iff.1 h
    unfold tupOf? at h1
    split at h1
    · rename_i x
      split at h1
      · rename_i hsz
        cases h1
        obtain ⟨us, ws, k1, k2, k3, k4, k5, k6⟩ := viewN_flat _ _ _ hf h2
        refine ⟨_, k3, fun A ι W v' hv => ?_, by simpa [flatR] using k4⟩
        obtain ⟨x', rfl, hx⟩ := tuple_inv hv
        have hws : ws = x.toList := by
          refine List.ext_getElem? fun j => ?_
          by_cases hj : j < ws.length
          · have := k5 j _ (List.getElem?_eq_getElem hj)
            rw [List.getElem?_eq_getElem hj]; rw [Nat.zero_add] at this; exact this.symm
          · rw [List.getElem?_eq_none (by omega), List.getElem?_eq_none (by simp only [Array.length_toList]; omega)]
        subst hws
        exact tuple_of_LRel (LRel.sub (k1.trans k2.symm) k6 hx)
      · cases h1
    · cases h1

/-- The world has grown, nothing of ours has turned. -/
theorem Sim.grow (h : Sim P base A ι W) {W' : World} {A2 : AMem} {ι2 : Iota} {A3 : AMem} {ι3 : Iota} (hb : base ≤ W.heap.size) (e : Ev W.heap.size A2 ι2 W A3 ι3 W') : Sim P base A ι W' ∧ Ev base A ι W A ι W' := by
  have hsz : ∀ b, szW W b ≤ szW W' b := fun b => by
    unfold szW
    by_cases hb : b < W.heap.size
    · rw [e.below.block b hb]; exact Nat.le_refl _
    · rw [Array.getElem?_eq_none (by omega)]; exact Nat.zero_le _
  have hle : Le A ι W A ι W' := ⟨fun _ h => h, fun _ _ _ h => .inr h, hsz, .refl _, Nat.le_refl _, fun _ _ h => h⟩
  have off : ∀ (b : Nat) (x : Obj), W.heap[b]? = some x → W'.heap[b]? = some x := fun b x hx =>
    (e.below.block b (Array.getElem?_eq_some_iff.1 hx).1).trans hx
  refine ⟨⟨h.has, fun a b o cs m hi hcs => ?_, fun a b o l hi hcs => ?_, h.leaf, h.sep⟩, ⟨hle, e.below.mono hb, fun r ds q => off _ _ q, fun r l q => ⟨l, off _ _ q⟩⟩⟩
  · obtain ⟨cs', t, fr, hb, q1, q2, q3⟩ := h.cells a b o cs m hi hcs
    refine ⟨cs', t, fr, off _ _ hb, q1, fun j v hv => ?_, q3⟩
    obtain ⟨v', r1, r2⟩ := q2 j v hv
    exact ⟨v', r1, r2.mono hle⟩
  · obtain ⟨l', hb, q1, q2⟩ := h.loop a b o l hi hcs
    exact ⟨l', off _ _ hb, q1.mono hle, q2⟩

theorem Sim.empty (base : Nat) (W : World) : Sim P base [] (fun _ => none) W where
  has := by intro a b o h; cases h
  cells := by intro a b o cs m h; cases h
  loop := by intro a b o l h; cases h
  leaf := by intro a b o cs m h; cases h
  sep := by intro a a' b o o' _ h; cases h

theorem callsIn_FW {f : FuncId} {args : Array Value} {w : World} {R : Ending → World → Prop} (ro : Option Nat) (n : Nat) (h : Calls P f args w R) : CallsIn (FW ro) n P f args w R :=
  (callsIn_wide.2 h : CallsIn Fence.wide n P f args w R)

theorem roundIn_FW {l : Nat} {f : FuncId} {tmps : Array Value} {a b : Code} {w : World} {R : Ending → World → Prop} (ro : Option Nat) (n : Nat) (h : RoundIn Fence.wide n P l f tmps a b w R) : RoundIn (FW ro) n P l f tmps a b w R := h

/-- One operation. -/
theorem opStep {rec : Rec} (hrec : RecOk P rec) {oc : Oper} {op : AOp} (hc : compOp P oc = some op) {t : List Value} {act : Act} {K : Value → AMem → Res} {r : Value × AMem}
    (hs : Sim P base A ι W) (ht : LRel A ι W t act.tmps.toList) (hb : base ≤ W.heap.size) (hk : opK rec op t A K = some r) (ro : Option Nat) (n : Nat) (next : Act → World → Prop) (Q : Exit → Act → World → Prop)
    (hnext : ∀ v A' ι' W' v', K v A' = some r → Sim P base A' ι' W' → Ev base A ι W A' ι' W' → VRel A' ι' W' v v' → next (act.put oc.dst v') W') :
    oc.wpIn (FW ro) n P act W next Q := by
  refine ⟨about_wide ro oc W act.eval, ?_⟩
  rw [Oper.semAt_eq _ _ _ (comp_not_defer hc)]
  by_cases hn : notCall op = true
  · obtain ⟨v, A', h1, nx, v', W', ι', h2, h3, h4, h5, h6⟩ := op_ok (rec := rec) (base := base) hc hn t A ι W act K r hs ht hb hk
    rw [h2]
    rcases h3 with rfl | ⟨rfl, rfl⟩
    · exact hnext v A' ι' W' v' h1 h4 h5 h6
    · exact hnext v A' ι' W' undef h1 h4 h5 h6
  · obtain ⟨flat, f, args, ret, single, rfl⟩ : ∃ flat f args ret single, op = .call flat f args ret single := by
      cases op <;> simp [notCall] at hn
      exact ⟨_, _, _, _, _, rfl⟩
    -- the model's call
    have hoc : ∃ c0, oc.op = .call c0 ∧ c0.callee = .value f ∧ c0.args.toList = args ∧ (flat = true → ret.all flatTy = true) := by
      obtain ⟨dst, o, ty, pos, after, guard⟩ := oc
      cases o with
      | call c0 =>
        refine ⟨c0, rfl, ?_⟩
        simp only [compOp] at hc
        split at hc
        · repeat' split at hc
          all_goals (first | (cases hc; done) | simp at hc)
        · split at hc
          · split at hc
            · obtain ⟨i, h3, h4⟩ := Option.bind_eq_some_iff.1 hc
              split at h4 <;> simp at h4
            · cases hc
          · cases hc
        · split at hc
          · split at hc
            · obtain ⟨i, h3, h4⟩ := Option.bind_eq_some_iff.1 hc
              split at h4 <;> simp at h4
            · cases hc
          · cases hc
        · simp at hc
        · simp at hc
        · rename_i g hcal
          obtain ⟨q, h1, h2⟩ := Option.map_eq_some_iff.1 hc
          cases h2
          refine ⟨hcal, rfl, fun hfl => ?_⟩
          unfold flatCall at hfl
          split at hfl
          · split at hfl
            · simp only [Bool.and_eq_true] at hfl
              exact hfl.1.2
            · cases hfl
          · cases hfl
        · cases hc
      | _ => exfalso; simp only [compOp, nilCmp] at hc <;> (repeat' split at hc) <;> simp_all [Option.bind_eq_some_iff, Option.map_eq_some_iff]
    obtain ⟨c0, hop, hcal, hargs, hflat⟩ := hoc
    have hxs := ev_list ht args
    have hfv := ev_rel ht f
    have hav : (c0.args.map act.eval).toList = args.map act.eval := by rw [Array.toList_map, hargs]
    rw [exec_call hop]
    simp only [opK] at hk
    split at hk
    · rename_i fn first cap hev
      rw [hev] at hfv
      split at hk
      · rename_i g
        obtain ⟨x', y', hfe, hfx, hfy⟩ := func_inv hfv
        have hres : (resolve act.eval c0 oc.type).run P W = .ok { target := .fn (.func g) y', args := x' ++ c0.args.map act.eval } W := by
          simp [resolve, hcal, hfe, Deferred.ofValue]
        rw [Sem.run_bind, hres]
        simp only [Result.andThen_ok, invoke]
        split at hk
        · -- what bears no address
          rename_i hfl
          split at hk
          · rename_i hcond
            simp only [Bool.and_eq_true] at hcond
            obtain ⟨⟨c1, c2⟩, c3⟩ := hcond
            obtain ⟨q, h1, h2⟩ := Option.bind_eq_some_iff.1 hk
            have e1 : first.toList = [] := by simpa using c2
            have e2 : cap.toList = [] := by simpa using c3
            have hx0 : x' = #[] := by
              have := hfx.1; rw [e1] at this; simp at this; exact Array.eq_empty_of_size_eq_zero this.symm
            have hy0 : y' = #[] := by
              have := hfy.1; rw [e2] at this; simp at this; exact Array.eq_empty_of_size_eq_zero this.symm
            subst hx0; subst hy0
            simp only [Array.empty_append, Array.append_empty]
            have hflat2 : LRel ([] : AMem) (fun _ => none) W (args.map (ev t)) (c0.args.map act.eval).toList := by
              rw [hav]
              refine ⟨hxs.1, fun j v v' e e' => ?_⟩
              have := hxs.2 j v v' e e'
              have hvf : flatV v = true := by rw [List.all_eq_true] at c1; exact c1 v (List.mem_iff_getElem?.2 ⟨j, e⟩)
              rw [← flatV_eq this hvf]
              exact VRel.flatV' hvf
            obtain ⟨hcf, hcalls⟩ := hrec.call g _ [] q h1 W.heap.size (fun _ => none) W (c0.args.map act.eval) (Sim.empty _ _) hflat2 (Nat.le_refl _)
            rw [hcf]
            refine ⟨fun h => by simp [FW_depth] at h, (callsIn_FW ro _ hcalls).mono fun e W' he => ?_⟩
            obtain ⟨v', ι', rfl, s1, ev1, vr⟩ := he
            obtain ⟨u, k1, k2, k3⟩ := view_flat (hflat hfl) h2
            obtain ⟨s2, ev2⟩ := hs.grow hb ev1
            exact hnext u A ι W' v' k1 s2 ev2 (flatR_rel k3 (k2 _ _ _ _ vr))
          · cases hk
        · obtain ⟨q, h1, h2⟩ := Option.bind_eq_some_iff.1 hk
          have hall : LRel A ι W (first.toList ++ args.map (ev t) ++ cap.toList) (x' ++ c0.args.map act.eval ++ y').toList := by
            simp only [Array.toList_append, hav]
            exact (hfx.append hxs).append hfy
          obtain ⟨hcf, hcalls⟩ := hrec.call g _ A q h1 base ι W _ hs hall hb
          rw [hcf]
          refine ⟨fun h => by simp [FW_depth] at h, (callsIn_FW ro _ hcalls).mono fun e W' he => ?_⟩
          obtain ⟨v', ι', rfl, s1, ev1, vr⟩ := he
          obtain ⟨u, k1, k2⟩ := view_ok h2
          exact hnext u q.2 ι' W' v' k1 s1 ev1 (k2 _ _ _ _ vr)
      · rename_i l
        have hk := (show _ = _ from hk)
        split at hk
        · cases hk
        obtain ⟨q, h1, h2⟩ := Option.bind_eq_some_iff.1 hk
        obtain ⟨rfl, rfl, l', hfe, _⟩ := yield_inv hfv
        have hres : (resolve act.eval c0 oc.type).run P W = .ok { target := .fn (.yield l') #[], args := c0.args.map act.eval } W := by
          simp [resolve, hcal, hfe, Deferred.ofValue]
        rw [Sem.run_bind, hres]
        simp only [Result.andThen_ok, invoke]
        rw [hfe] at hfv
        obtain ⟨fn, tmps, assign, body, hy1, hy2⟩ := hrec.round l _ A q h1 base ι W (c0.args.map act.eval) l' hs (by rw [hav]; exact hxs) hb hfv
        rw [hy1]
        refine ⟨fun h => by simp [FW_depth] at h, (roundIn_FW ro _ (hy2 _)).mono fun e W' he => ?_⟩
        obtain ⟨v', ι', rfl, s1, ev1, vr⟩ := he
        obtain ⟨u, k1, k2⟩ := view_ok h2
        exact hnext u q.2 ι' W' v' k1 s1 ev1 (k2 _ _ _ _ vr)
      · cases hk
    · cases hk

end
end Go.Ax
