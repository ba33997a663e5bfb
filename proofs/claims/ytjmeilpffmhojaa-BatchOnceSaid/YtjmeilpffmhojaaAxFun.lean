/- Rounds, loops, functions; all together. -/
import Derived.Test.YtjmeilpffmhojaaAxCode
import Derived.Test.YtjmeilpffmhojaaAxGrow
set_option linter.unusedVariables false
set_option linter.unusedSimpArgs false
namespace Go.Ax
open Go Go.RowKit

/-- What is asked of the regions whose order is open. -/
def DrawsOk (P : Program) : Prop := ∀ (rec : Rec), RecOk P rec → GrowRec rec → ∀ (id : Nat) (ops : Array Oper) (l : List AOper) (first : List AOper) (nres : Nat) (l' : List (AOper × Option Nat)) (chk : List (Nat × Nat)),
  ops.toList.mapM (compOper P ops) = some l → closedE ops (Region.before ops) = true →
  drawOf (Region.before ops) l = some (.draw first nres l' chk) → CodeOk P (.region id ops true) (code rec (.draw first nres l' chk))

section
variable {P : Program} {base : Nat} {A : AMem} {ι : Iota} {W : World}

theorem drawOf_draw {bef : Array Nat} {l : List AOper} {x : ACode} (h : drawOf bef l = some x) : ∃ first nres l' chk, x = .draw first nres l' chk := by
  unfold drawOf at h
  split at h
  · cases h; exact ⟨_, _, _, _, rfl⟩
  · split at h
    · cases h; exact ⟨_, _, _, _, rfl⟩
    · cases h

theorem code_ok {rec : Rec} (hrec : RecOk P rec) (hgr : GrowRec rec) (hdraw : DrawsOk P) : ∀ (a : ACode) (c : Code), comp P c = some (erase a) → CodeOk P c (code rec a) := by
  intro a
  induction a with
  | skip =>
    intro c h
    cases c <;> simp only [erase, comp] at h
    case skip =>
      intro K t A r hk ro n base lo ι W act hr hs ht hd hlo hb
      exact wpIn_skip ⟨.normal, t, A, ι, hk, .normal, hs, ht, hd, .refl _ _ _ _⟩
    case region id ops draw =>
      obtain ⟨l, h1, h2⟩ := Option.bind_eq_some_iff.1 h
      split at h2
      · split at h2
        · obtain ⟨_, _, _, _, e⟩ := drawOf_draw h2; cases e
        · cases h2
      · cases h2
    all_goals (first | (cases h; done) | (simp [Option.bind_eq_some_iff, Option.map_eq_some_iff] at h; done))
  | ops l =>
    intro c h
    cases c <;> simp only [erase, comp] at h
    case region id ops draw =>
      obtain ⟨l0, h1, h2⟩ := Option.bind_eq_some_iff.1 h
      split at h2
      · split at h2
        · obtain ⟨_, _, _, _, e⟩ := drawOf_draw h2; cases e
        · cases h2
      · rename_i hdr
        cases h2
        have : draw = false := by simpa using hdr
        subst this
        intro K t A r hk ro n base lo ι W act hr hs ht hd hlo hb
        refine wpIn_region ?_
        have := opsStep (base := base) hrec ro n (Post P base lo K r A ι W) (fun t M => K .normal t M) r ops.toList l 0 h1 (fun j => by simp) t A ι W act hs ht (Nat.le_trans hb hlo) hk
          (fun t' A' ι' W' a' k1 k2 k3 k4 k5 => ⟨.normal, t', A', ι', k1, .normal, k2, k3, by rw [k4]; exact hd.ev k5, k5⟩)
        rw [List.range_eq_range', ← Array.length_toList]
        exact this
    all_goals (first | (cases h; done) | (simp [Option.bind_eq_some_iff, Option.map_eq_some_iff] at h; done))
  | draw first nres l' chk =>
    intro c h
    cases c <;> simp only [erase, comp] at h
    case region id ops draw =>
      obtain ⟨l0, h1, h2⟩ := Option.bind_eq_some_iff.1 h
      split at h2
      · rename_i hdr
        split at h2
        · rename_i hall
          subst hdr
          exact hdraw rec hrec hgr id ops l0 first nres l' chk h1 hall h2
        · cases h2
      · cases h2
    all_goals (first | (cases h; done) | (simp [Option.bind_eq_some_iff, Option.map_eq_some_iff] at h; done))
  | seq a b iha ihb =>
    intro c h
    cases c <;> simp only [erase, comp] at h
    case seq c1 c2 =>
      obtain ⟨x, h1, h2⟩ := Option.bind_eq_some_iff.1 h
      obtain ⟨y, h3, h4⟩ := Option.bind_eq_some_iff.1 h2
      cases h4
      exact seq_ok (iha c1 h1) (ihb c2 h3)
    case region id ops draw =>
      obtain ⟨l, h1, h2⟩ := Option.bind_eq_some_iff.1 h
      split at h2
      · split at h2
        · obtain ⟨_, _, _, _, e⟩ := drawOf_draw h2; cases e
        · cases h2
      · cases h2
    all_goals (first | (cases h; done) | (simp [Option.bind_eq_some_iff, Option.map_eq_some_iff] at h; done))
  | cond q a b iha ihb =>
    intro c h
    cases c <;> simp only [erase, comp] at h
    case cond q' c1 c2 =>
      obtain ⟨x, h1, h2⟩ := Option.bind_eq_some_iff.1 h
      obtain ⟨y, h3, h4⟩ := Option.bind_eq_some_iff.1 h2
      cases h4
      intro K t A r hk ro n base lo ι W act hr hs ht hd hlo hb
      simp only [code] at hk
      split at hk
      · rename_i v hv
        have hc := ev_rel ht q
        rw [hv] at hc
        refine wpIn_cond (bool_inv hc) ?_
        split at hk
        · rename_i hvt; subst hvt
          exact iha c1 h1 K t A r hk ro n base lo ι W act hr hs ht hd hlo hb
        · rename_i hvf
          have : v = false := by simpa using hvf
          subst this
          exact ihb c2 h3 K t A r hk ro n base lo ι W act hr hs ht hd hlo hb
      · cases hk
    case region id ops draw =>
      obtain ⟨l, h1, h2⟩ := Option.bind_eq_some_iff.1 h
      split at h2
      · split at h2
        · obtain ⟨_, _, _, _, e⟩ := drawOf_draw h2; cases e
        · cases h2
      · cases h2
    all_goals (first | (cases h; done) | (simp [Option.bind_eq_some_iff, Option.map_eq_some_iff] at h; done))
  | block id b ih =>
    intro c h
    cases c <;> simp only [erase, comp] at h
    case block id' c1 =>
      obtain ⟨x, h1, h2⟩ := Option.map_eq_some_iff.1 h
      cases h2
      exact block_ok (ih c1 h1)
    case region id ops draw =>
      obtain ⟨l, h1, h2⟩ := Option.bind_eq_some_iff.1 h
      split at h2
      · split at h2
        · obtain ⟨_, _, _, _, e⟩ := drawOf_draw h2; cases e
        · cases h2
      · cases h2
    all_goals (first | (cases h; done) | (simp [Option.bind_eq_some_iff, Option.map_eq_some_iff] at h; done))
  | loop b ih =>
    intro c h
    cases c <;> simp only [erase, comp] at h
    case loop c1 =>
      obtain ⟨x, h1, h2⟩ := Option.map_eq_some_iff.1 h
      cases h2
      exact hrec.loop b c1 h1
    case region id ops draw =>
      obtain ⟨l, h1, h2⟩ := Option.bind_eq_some_iff.1 h
      split at h2
      · split at h2
        · obtain ⟨_, _, _, _, e⟩ := drawOf_draw h2; cases e
        · cases h2
      · cases h2
    all_goals (first | (cases h; done) | (simp [Option.bind_eq_some_iff, Option.map_eq_some_iff] at h; done))
  | rangeFunc f ps aa ab _ _ =>
    intro c h
    cases c <;> simp only [erase, comp] at h
    case rangeFunc f' ps' c1 c2 =>
      obtain ⟨x, h1, h2⟩ := Option.bind_eq_some_iff.1 h
      obtain ⟨y, h3, h4⟩ := Option.bind_eq_some_iff.1 h2
      cases h4
      exact rangeFunc_ok hrec h1 h3
    case region id ops draw =>
      obtain ⟨l, h1, h2⟩ := Option.bind_eq_some_iff.1 h
      split at h2
      · split at h2
        · obtain ⟨_, _, _, _, e⟩ := drawOf_draw h2; cases e
        · cases h2
      · cases h2
    all_goals (first | (cases h; done) | (simp [Option.bind_eq_some_iff, Option.map_eq_some_iff] at h; done))
  | exit id =>
    intro c h
    cases c <;> simp only [erase, comp] at h
    case exit i =>
      cases h
      intro K t A r hk ro n base lo ι W act hr hs ht hd hlo hb
      exact wpIn_exit ⟨.exit id, t, A, ι, hk, .exit id, hs, ht, hd, .refl _ _ _ _⟩
    case region id ops draw =>
      obtain ⟨l, h1, h2⟩ := Option.bind_eq_some_iff.1 h
      split at h2
      · split at h2
        · obtain ⟨_, _, _, _, e⟩ := drawOf_draw h2; cases e
        · cases h2
      · cases h2
    all_goals (first | (cases h; done) | (simp [Option.bind_eq_some_iff, Option.map_eq_some_iff] at h; done))
  | ret =>
    intro c h
    cases c <;> simp only [erase, comp] at h
    case ret =>
      intro K t A r hk ro n base lo ι W act hr hs ht hd hlo hb
      exact wpIn_ret ⟨.ret, t, A, ι, hk, .ret, hs, ht, hd, .refl _ _ _ _⟩
    case region id ops draw =>
      obtain ⟨l, h1, h2⟩ := Option.bind_eq_some_iff.1 h
      split at h2
      · split at h2
        · obtain ⟨_, _, _, _, e⟩ := drawOf_draw h2; cases e
        · cases h2
      · cases h2
    all_goals (first | (cases h; done) | (simp [Option.bind_eq_some_iff, Option.map_eq_some_iff] at h; done))
  | clear ts a ih =>
    intro c h
    exact clear_ok (ih c h) ts
  | post a ts ih =>
    intro c h
    exact post_ok (ih c h) ts

/-! #### results -/

def resSem (tmps : Array Value) : ResultVar → Sem Value
  | .tmp t => pure (tmps.getD t undef)
  | .cell a t => do loadVar t (← asAddr (tmps.getD a undef))

theorem results_eq (fn : Func) (tmps : Array Value) : results fn tmps = (do let vs ← fn.results.mapM (resSem tmps); pure (if h : vs.size = 1 then vs[0] else .tuple vs)) := by
  unfold results
  congr 1

theorem results_ok {t : List Value} {tmps : Array Value} {r : Value × AMem} {W : World} (hs : Sim P base A ι W) (ht : LRel A ι W t tmps.toList) : ∀ (rv : List ResultVar) (ars : List ARes) (K : List Value → Res), rv.mapM (compRes P) = some ars →
    resK t A ars K = some r → ∃ us us' : List Value, K us = some r ∧ (rv.mapM (resSem tmps)).run P W = .ok us' W ∧ LRel A ι W us us'
  | [], ars, K, hm, hk => by
    simp at hm; subst hm
    exact ⟨[], [], hk, by simp, LRel.nil⟩
  | x :: rv, ars, K, hm, hk => by
    simp only [List.mapM_cons] at hm
    obtain ⟨a, h1, h2⟩ := Option.bind_eq_some_iff.1 hm
    obtain ⟨ars', h3, h4⟩ := Option.bind_eq_some_iff.1 h2
    cases h4
    have hget : ∀ i : Nat, VRel A ι W (t.getD i undef) (tmps.getD i undef) := fun i => by
      have := ev_rel (act := { tmps := tmps, defers := [] }) ht (.tmp i)
      exact this
    cases x with
    | tmp i =>
      simp only [compRes] at h1; cases h1
      simp only [resK] at hk
      obtain ⟨us, us', k1, k2, k3⟩ := results_ok hs ht rv ars' _ h3 hk
      refine ⟨_ :: us, tmps.getD i undef :: us', k1, ?_, LRel.cons (hget i) k3⟩
      simp only [List.mapM_cons, resSem, Sem.run_bind, Sem.run_pure, Result.andThen_ok, k2]
    | cell ad ty =>
      simp only [compRes] at h1
      obtain ⟨x, h5, h6⟩ := Option.map_eq_some_iff.1 h1
      subst h6
      simp only [resK] at hk
      have hg := hget ad
      split at hk
      · rename_i p hp
        rw [hp] at hg
        have hk' : (if x.1 then ldLeaves (fun j => A.ld p.block (p.off + j)) x.2 0 fun vs => (fun u => resK t A ars' fun vs => K (u :: vs)) (.agg vs.toArray) else match x.2 with | [lf] => ldLeaf lf (A.ld p.block p.off) (fun u => resK t A ars' fun vs => K (u :: vs)) | _ => none) = some r := hk
        obtain ⟨u, u', q, q1, q2, q3, q4⟩ := load_core (P := P) h5 hs hg hk'
        obtain ⟨us, us', k1, k2, k3⟩ := results_ok hs ht rv ars' _ h3 q2
        refine ⟨u :: us, u' :: us', k1, ?_, LRel.cons q4 k3⟩
        have ea : (resSem tmps (.cell ad ty)).run P W = .ok u' W := by simp only [resSem, q1, asAddr, Sem.run_bind, Sem.run_pure, Result.andThen_ok, q3]
        simp only [List.mapM_cons, Sem.run_bind, Sem.run_pure, Result.andThen_ok, ea, k2]
      · cases hk

theorem tupV_rel {us us' : List Value} (h : LRel A ι W us us') : VRel A ι W (tupV us) (if h : us'.toArray.size = 1 then us'.toArray[0] else .tuple us'.toArray) := by
  cases us with
  | nil =>
    have := h.inv_nil; subst this
    exact tuple_of_LRel (us := []) (cs' := #[]) LRel.nil
  | cons u us =>
    obtain ⟨u', r', rfl, h1, h2⟩ := h.inv
    cases us with
    | nil =>
      have := h2.inv_nil; subst this
      exact h1
    | cons w us =>
      obtain ⟨w', r'', rfl, h3, h4⟩ := h2.inv
      rw [dif_neg (by simp)]
      exact tuple_of_LRel (us := u :: w :: us) (by simpa using h)

theorem run_results {fn : Func} {tmps : Array Value} {us' : List Value} {W : World} (h : (fn.results.toList.mapM (resSem tmps)).run P W = .ok us' W) :
    (results fn tmps).run P W = .ok (if h : us'.toArray.size = 1 then us'.toArray[0] else .tuple us'.toArray) W := by
  rw [results_eq, ← Array.toArray_toList (xs := fn.results), List.mapM_toArray]
  simp only [Sem.run_bind, Sem.run_map]
  rw [h]
  rfl

/-- The marks of the loops that are over are taken. -/
theorem leaves_ok {fn : Func} {tmps : Array Value} {R : Ending → World → Prop} {n : Nat} : ∀ (rs : List Nat) (W : World), rs.Nodup → (∀ r ∈ rs, W.heap[r]? = some (.deferred (some []))) →
    (∀ W' : World, (∀ k, k ∉ rs → W'.heap[k]? = W.heap[k]?) → (∀ r ∈ rs, W'.heap[r]? = some (.deferred none)) → W'.os = W.os → W'.tape = W.tape → W'.output = W.output → W'.heap.size = W.heap.size →
      ∃ v, (results fn tmps).run P W' = .ok v W' ∧ R (.returned v) W') →
    LeavesInM Fence.wide n P fn tmps R (rs.map fun r => ({ target := .collected r, args := #[] } : Deferred)) .returning W
  | [], W, _, _, h => by
    simp only [List.map_nil, LeavesInM, LeavesIn]
    exact h W (fun _ _ => rfl) (fun r hr => by cases hr) rfl rfl rfl rfl
  | r :: rs, W, hnd, hdef, h => by
    obtain ⟨n1, n2⟩ := List.nodup_cons.1 hnd
    have hr := hdef r (by simp)
    have hlt : r < W.heap.size := (Array.getElem?_eq_some_iff.1 hr).1
    simp only [List.map_cons, LeavesInM]
    refine ⟨by simp, .inl ⟨r, W.putObj r (.deferred none), rfl, run_takeDeferred hr, ?_⟩⟩
    refine leaves_ok rs _ n2 (fun x hx => ?_) fun W' k1 k2 k3 k4 k5 k6 => ?_
    · rw [World.putObj_heap_other (fun e => n1 (by rw [← e]; exact hx))]
      exact hdef x (by simp [hx])
    · refine h W' (fun k hk => ?_) (fun x hx => ?_) k3 k4 k5 (k6.trans World.putObj_size)
      · have hk' : k ≠ r ∧ k ∉ rs := by simpa using hk
        rw [k1 k hk'.2, World.putObj_heap_other hk'.1]
      · rcases List.mem_cons.1 hx with rfl | hx
        · rw [k1 x n1]; exact World.putObj_heap_same hlt
        · exact k2 x hx

/-- Blocks that hold deferred calls have been turned. -/
theorem Sim.defs (h : Sim P base A ι W) {W' : World} (rs : List Nat) (hdef : ∀ r ∈ rs, W.heap[r]? = some (.deferred (some []))) (hsame : ∀ k, k ∉ rs → W'.heap[k]? = W.heap[k]?)
    (hnew : ∀ r ∈ rs, W'.heap[r]? = some (.deferred none)) : Sim P base A ι W' ∧ Le A ι W A ι W' := by
  have hsz : ∀ k, szW W k ≤ szW W' k := fun k => by
    unfold szW
    by_cases e : k ∈ rs
    · rw [hdef k e]; exact Nat.zero_le _
    · rw [hsame k e]; exact Nat.le_refl _
  have hle : Le A ι W A ι W' := ⟨fun _ h => h, fun _ _ _ h => .inr h, hsz, .refl _, Nat.le_refl _, fun _ _ h => h⟩
  refine ⟨⟨h.has, fun a b' o cs m hi hcs => ?_, fun a b' o l hi hcs => ?_, h.leaf, h.sep⟩, hle⟩
  · obtain ⟨cs', t, fr, hb, q1, q2, q3⟩ := h.cells a b' o cs m hi hcs
    refine ⟨cs', t, fr, by rw [hsame b' (fun e => by rw [hdef b' e] at hb; cases hb)]; exact hb, q1, fun j v hv => ?_, q3⟩
    obtain ⟨v', r1, r2⟩ := q2 j v hv
    exact ⟨v', r1, r2.mono hle⟩
  · obtain ⟨l', hb, q1, q2⟩ := h.loop a b' o l hi hcs
    exact ⟨l', by rw [hsame b' (fun e => by rw [hdef b' e] at hb; cases hb)]; exact hb, q1.mono hle, q2⟩

theorem enter_ok {rec : Rec} (hrec : RecOk P rec) (hgr : GrowRec rec) (hdraw : DrawsOk P) {g : FuncId} {a : AFun} (hf : OkFun P g a) {args : List Value} {r : Value × AMem} (hk : enterF rec a args A = some r) (args' : Array Value)
    (hs : Sim P base A ι W) (ha : LRel A ι W args args'.toList) (hb : base ≤ W.heap.size) :
    (callFunc g args').run P W = .ok (.enter g args') W ∧ Calls P g args' W (CallPost P base A ι W r) := by
  obtain ⟨fn, body, f1, f2, f3, f4, f5, f6⟩ := hf
  unfold enterF at hk
  split at hk
  · rename_i hlen
    have f3' : ¬ fn.name = "runtime.NumGoroutine" := by simpa using f3
    refine ⟨by simp [callFunc, f1, f2, f3'], ?_⟩
    refine (callsIn_wide (n := 0)).1 ?_
    refine callsIn_of_wp_marks f1 f2 trivial ?_
    have htm : LRel A ι W (args ++ List.replicate (a.ntmps - args.length) undef) (args' ++ Array.replicate (fn.ntmps - args'.size) undef).toList := by
      simp only [Array.toList_append, Array.toList_replicate]
      refine ha.append ?_
      have hl : args'.size = args.length := by have := ha.1; simpa using this.symm
      rw [f4, hl]
      exact ⟨rfl, fun j v v' e e' => by
        rw [List.getElem?_replicate] at e e'
        split at e
        · rename_i hj; rw [if_pos hj] at e'; cases e; cases e'; exact VRel.undef'
        · cases e⟩
    refine wpIn_mono (F := FW none) (code_ok hrec hgr hdraw a.code body f6 (retK a.res) _ A r hk none 0 base W.heap.size ι W _ (fun l hl => by cases hl) hs htm ⟨[], rfl, List.nodup_nil, fun r hr => by cases hr⟩ (Nat.le_refl _) hb) ?_
    rintro e act w ⟨ae, t', A', ι', k1, k2, k3, k4, k5, k6⟩
    have fin : resK t' A' a.res (fun vs => some (tupV vs, A')) = some r → LeavesInM Fence.wide 0 P fn act.tmps (CallPost P base A ι W r) act.defers .returning w := fun hr => by
      obtain ⟨rs, d1, d2, d3⟩ := k5
      rw [d1]
      refine leaves_ok rs w d2 (fun x hx => (d3 x hx).2) fun W' q1 q2 q3 q4 q5 q6 => ?_
      obtain ⟨s2, le2⟩ := k3.defs rs (fun x hx => (d3 x hx).2) q1 q2
      obtain ⟨us, us', u1, u2, u3⟩ := results_ok s2 (k4.mono le2) fn.results.toList a.res _ f5 hr
      cases u1
      refine ⟨_, run_results u2, _, ι', rfl, s2, ⟨k6.le.trans le2, ?_, fun x ds hx => ?_, fun x l hx => ?_⟩, tupV_rel u3⟩
      · refine k6.below.trans ⟨q3, q4, q5, Nat.le_of_eq q6.symm, fun k hk => q1 k fun hm => ?_⟩
        have := (d3 k hm).1; omega
      · rw [q1 x (fun hm => ?_)]
        · exact k6.deferred x ds hx
        · have := (d3 x hm).1
          have := (Array.getElem?_eq_some_iff.1 hx).1
          omega
      · obtain ⟨l', hl'⟩ := k6.loops x l hx
        refine ⟨l', ?_⟩
        rw [q1 x (fun hm => ?_)]
        · exact hl'
        · rw [(d3 x hm).2] at hl'; cases hl'
    cases k2 with
    | normal => exact fin k1
    | ret => exact fin k1
    | exit id => cases k1
  · cases hk


/-! #### loops -/

theorem exists_least {p : Nat → Prop} (h : ∃ n, p n) : ∃ n, p n ∧ ∀ m, p m → n ≤ m := by
  obtain ⟨n, hn⟩ := h
  induction n using Nat.strongRecOn with
  | _ n ih =>
    by_cases hex : ∃ m, m < n ∧ p m
    · obtain ⟨m, hm, hp⟩ := hex
      exact ih m hm hp
    · exact ⟨n, hn, fun m hm => Nat.le_of_not_lt fun hlt => hex ⟨m, hlt, hm⟩⟩

theorem run_ok_loop {E : Env} (hdraw : DrawsOk P) {n : Nat} (hgr : ∀ m, GrowRec (run E m)) (hall : ∀ m, m < n → RecOk P (run E m)) (b : ACode) (c : Code) (hc : comp P c = some (erase b)) : CodeOk P (.loop c) ((run E n).loop b) := by
  intro K t A r hk ro nn base lo ι W act hr hs ht hd hlo hb
  -- in what states a round may begin, by how many rounds are left
  let In : Nat → Act → World → Prop := fun m a w => m ≤ n ∧ ∃ t' A' ι', (run E m).loop b K t' A' = some r ∧ RoundOk ro w ∧ Sim P base A' ι' w ∧ LRel A' ι' w t' a.tmps.toList ∧ DRel lo w a.defers ∧ Ev base A ι W A' ι' w
  refine wpIn_loop (fun a w => ∃ m, In m a w) (fun a w => open Classical in if h : ∃ m, In m a w then (exists_least h).choose else 0) ⟨n, Nat.le_refl _, t, A, ι, hk, hr, hs, ht, hd, .refl _ _ _ _⟩ ?_
  intro a w hin
  simp only [dif_pos hin]
  obtain ⟨hm, hleast⟩ := (exists_least hin).choose_spec
  generalize (exists_least hin).choose = m at hm hleast ⊢
  obtain ⟨hmn, t', A', ι', h1, h2, h3, h4, h5, h6⟩ := hm
  cases m with
  | zero => cases h1
  | succ m =>
    have h1' : code (run E m) b (loopK (run E m) b K) t' A' = some r := h1
    have hrec := hall m (by omega)
    refine wpIn_mono (code_ok hrec (hgr m) hdraw b c hc _ t' A' r h1' ro nn base lo ι' w a h2 h3 h4 h5 (Nat.le_trans hlo h6.size) hb) ?_
    rintro e a2 w2 ⟨ae, t2, A2, ι2, k1, k2, k3, k4, k5, k6⟩
    have ev2 := h6.trans k6
    cases k2 with
    | normal =>
      have hin2 : In m a2 w2 := ⟨by omega, t2, A2, ι2, k1, h2.ev k6, k3, k4, k5, ev2⟩
      have hex2 : ∃ m, In m a2 w2 := ⟨m, hin2⟩
      refine ⟨hex2, ?_⟩
      simp only [dif_pos hex2]
      have := (exists_least hex2).choose_spec.2 m hin2
      omega
    | exit id => exact ⟨_, t2, A2, ι2, k1, .exit id, k3, k4, k5, ev2⟩
    | ret => exact ⟨_, t2, A2, ι2, k1, .ret, k3, k4, k5, ev2⟩

/-! #### rounds -/

theorem params_rel : ∀ (ps : List Nat) (vs vs' : List Value) (t : List Value) (tmps : Array Value), LRel A ι W t tmps.toList → LRel A ι W vs vs' →
    LRel A ι W (setParams t (ps.zip vs)) ((ps.zip vs').foldl (fun (tmps : Array Value) (x : Nat × Value) => tmps.setIfInBounds x.1 x.2) tmps).toList
  | [], vs, vs', t, tmps, ht, hv => by simpa [setParams] using ht
  | p :: ps, [], vs', t, tmps, ht, hv => by
    have := hv.inv_nil; subst this
    simpa [setParams] using ht
  | p :: ps, v :: vs, vs', t, tmps, ht, hv => by
    obtain ⟨v', r', rfl, h1, h2⟩ := hv.inv
    simp only [List.zip_cons_cons, setParams, List.foldl_cons]
    refine params_rel ps vs r' _ _ ?_ h2
    rw [Array.toList_setIfInBounds]
    exact ht.set p h1

theorem round_ok {rec : Rec} (hrec : RecOk P rec) (hgr : GrowRec rec) (hdraw : DrawsOk P) {l : Nat} {args : List Value} {r : Value × AMem} (hk : roundF rec l args A = some r) (args' : Array Value) (l' : Nat)
    (hs : Sim P base A ι W) (ha : LRel A ι W args args'.toList) (hb : base ≤ W.heap.size) (hy : VRel A ι W (.func (.yield l) #[] #[]) (.func (.yield l') #[] #[])) :
    ∃ fn tmps assign body, (Instr.yield l' args').run P W = .ok (.round l' fn tmps assign body) W ∧ ∀ n, RoundIn Fence.wide n P l' fn tmps assign body W (CallPost P base A ι W r) := by
  unfold roundF at hk
  split at hk
  · rename_i al hal
    split at hk
    · rename_i hc
      obtain ⟨hlen, hready⟩ := hc
      have hi : ι l = some (l', 0) := by
        obtain ⟨_, _, l2, e, hd⟩ := yield_inv hy
        cases e
        rcases hd with hd | hd
        · rw [hal] at hd; cases hd
        · exact hd
      obtain ⟨lr, hW, hrel, hbase⟩ := hs.loop _ _ _ _ hi hal
      have hsz : args'.size = lr.params.size := by
        have h1 := ha.1
        have h2 := congrArg List.length hrel.params
        simp at h1 h2
        omega
      refine ⟨_, _, _, _, run_yield hW hsz, fun n => ?_⟩
      refine roundIn_of_wpIn trivial ?_
      have htm : LRel A ι W (setParams al.tmps (al.params.zip args)) ((lr.params.zip args').foldl (fun tmps x => match x with | (t, a) => tmps.setIfInBounds t a) lr.tmps).toList := by
        have := params_rel (A := A) (ι := ι) (W := W) al.params args args'.toList al.tmps lr.tmps hrel.tmps ha
        rw [← hrel.params] at this
        rw [← Array.foldl_toList, Array.toList_zip]
        rw [hrel.params] at this ⊢
        exact this
      have hro : RoundOk (some l') W := fun x hx => by cases hx; exact ⟨lr, hW⟩
      refine wpIn_mono (code_ok hrec hgr hdraw al.assign lr.assign hrel.assign _ _ A r hk (some l') n base W.heap.size ι W { tmps := _, defers := [] } hro hs htm ⟨[], rfl, List.nodup_nil, fun r hr => by cases hr⟩ (Nat.le_refl _) hb) ?_
      rintro e a1 w1 ⟨ae, t1, A1, ι1, k1, k2, k3, k4, k5, k6⟩
      cases k2 with
      | exit id => cases k1
      | ret => cases k1
      | normal =>
        simp only at k1
        split at k1
        · rename_i r1 hr1
          split at k1
          · rename_i hrdy
            have hi1 : ι1 l = some (l', 0) := by
              rcases k6.le.live l _ _ hi with hd | h
              · rw [hr1] at hd; cases hd
              · exact h
            obtain ⟨lr1, hW1, hrel1, _⟩ := k3.loop _ _ _ _ hi1 hr1
            have hst1 : lr1.state = .ready := hrel1.state.trans hrdy
            have hrel2 : LoopRel P A1 ι1 w1 { r1 with state := .busy } { lr1 with state := .busy } := { hrel1 with state := rfl }
            obtain ⟨s2, ev2⟩ := k3.setLoop hi1 hr1 hW1 hrel2
            refine ⟨_, run_beginRound hW1 hst1, ?_⟩
            have ev12 := k6.trans ev2
            have hlt1 : l' < w1.heap.size := (Array.getElem?_eq_some_iff.1 hW1).1
            have hro2 : RoundOk (some l') (w1.putObj l' (.loop { lr1 with state := .busy })) := fun x hx => by cases hx; exact ⟨_, World.putObj_heap_same hlt1⟩
            refine wpIn_mono (code_ok hrec hgr hdraw al.body lr.body hrel.body _ _ _ r k1 (some l') n base W.heap.size ι1 _ a1 hro2 s2 (k4.mono ev2.le) (k5.ev ev2) ev12.size hb) ?_
            rintro e3 a3 w3 ⟨ae3, t3, A3, ι3, j1, j2, j3, j4, j5, j6⟩
            have ev13 := ev12.trans j6
            unfold roundK at j1
            split at j1
            · rename_i r3 hr3
              have hi3 : ι3 l = some (l', 0) := by
                rcases ev13.le.live l _ _ hi with hd | h
                · rw [hr3] at hd; cases hd
                · exact h
              obtain ⟨lr3, hW3, hrel3, _⟩ := j3.loop _ _ _ _ hi3 hr3
              cases j2 with
              | normal =>
                cases j1
                have hrel4 : LoopRel P A3 ι3 w3 { r3 with state := .ready, pending := none } { lr3 with state := .ready, pending := none } := { hrel3 with state := rfl, pend := trivial }
                obtain ⟨s4, ev4⟩ := j3.setLoop hi3 hr3 hW3 hrel4
                exact ⟨_, _, run_endRound none hW3, _, ι3, rfl, s4, ev13.trans ev4, .flat _ rfl⟩
              | exit id =>
                cases j1
                have hrel4 : LoopRel P A3 ι3 w3 { r3 with state := .done, pending := some (.exit id) } { lr3 with state := .done, pending := some (.exit id) } := { hrel3 with state := rfl, pend := rfl }
                obtain ⟨s4, ev4⟩ := j3.setLoop hi3 hr3 hW3 hrel4
                exact ⟨_, _, run_endRound (some (.exit id)) hW3, _, ι3, rfl, s4, ev13.trans ev4, .flat _ rfl⟩
              | ret =>
                cases j1
                have hrel4 : LoopRel P A3 ι3 w3 { r3 with state := .done, pending := some .ret } { lr3 with state := .done, pending := some .ret } := { hrel3 with state := rfl, pend := trivial }
                obtain ⟨s4, ev4⟩ := j3.setLoop hi3 hr3 hW3 hrel4
                exact ⟨_, _, run_endRound (some .ret) hW3, _, ι3, rfl, s4, ev13.trans ev4, .flat _ rfl⟩
            · cases j1
          · cases k1
        · cases k1
    · cases hk
  · cases hk

end
end Go.Ax
