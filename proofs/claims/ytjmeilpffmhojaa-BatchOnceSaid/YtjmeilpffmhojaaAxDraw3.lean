/- Regions whose order is open: sound. -/
import Derived.Test.YtjmeilpffmhojaaAxClaim
set_option linter.unusedVariables false
set_option linter.unusedSimpArgs false
namespace Go.Ax
open Go Go.RowKit

section
variable {P : Program} {rec : Rec}

def Lst (L : Array Bool) (j : Nat) : Prop := L.getD j false = true

theorem Lst.set {L : Array Bool} {i : Nat} (hi : i < L.size) (j : Nat) : Lst (L.setIfInBounds i true) j ↔ Lst L j ∨ j = i := by
  unfold Lst
  by_cases e : i = j
  · subst e; simp [hi]
  · rw [getD_set_ne false e]
    exact ⟨.inl, fun h => h.resolve_right (Ne.symm e)⟩

theorem not_lst {L : Array Bool} {i : Nat} (h : L.getD i true = false) : ¬ Lst L i ∧ i < L.size := by
  unfold Lst
  by_cases hi : i < L.size
  · simp only [Array.getD, hi, dif_pos] at h ⊢
    rw [h]; exact ⟨by simp, trivial⟩
  · simp [Array.getD, hi] at h

theorem count_set' {L : Array Bool} {i n : Nat} (h : L.getD i true = false) (hc : L.count false = n + 1) : (L.setIfInBounds i true).count false = n := by
  have hi := (not_lst h).2
  have hg : L[i] = false := by simpa [Array.getD, hi] using h
  rw [Array.setIfInBounds, dif_pos hi, Array.count_set hi]
  simp [hg, hc]

/-- Some operation may come next, as long as one is left. -/
theorem ready_some {ops : Array Oper} (hc : closedE ops (Region.before ops) = true) {L : Array Bool} (hsz : L.size = ops.size) (h : Region.ready .any ops L = []) : ∀ j, j < ops.size → Lst L j := by
  intro j
  induction j using Nat.strongRecOn with
  | _ j ih =>
    intro hj
    have hg := Array.getElem?_eq_getElem hj
    cases hb : L.getD j true with
    | true =>
      unfold Lst
      have : j < L.size := by omega
      simpa [Array.getD, this] using hb
    | false =>
      exfalso
      have : j ∈ Region.ready .any ops L := by
        rw [mem_ready]
        refine ⟨hb, _, hg, fun e he hbd => ?_⟩
        have hlt := (closedE_spec hc hg).1 e he hbd
        exact ih e.on hlt (by omega)
      rw [h] at this; cases this

theorem draw_plain (hm : P.follows .mixedOrders = true) {rec : Rec} (hrec : RecOk P rec) (hg : GrowRec rec) {id : Nat} {ops : Array Oper} {l : List AOper} (h1 : ops.toList.mapM (compOper P ops) = some l)
    (hclosed : closedE ops (Region.before ops) = true) (hfit : drawFit (Region.before ops) l = true) :
    CodeOk P (.region id ops true) (code rec (.draw [] 0 (l.map fun a => (a, none)) (drawChk (Region.before ops) l))) := by
  intro K t A r hk ro n base lo ι W act hr hs ht hd hlo hb
  have hk' : drawK rec (drawChk (Region.before ops) l) A.length (l.map fun a => (a, none)) 0 [] [] t A (fun t M => K .normal t M) = some r := hk
  obtain ⟨T, M, V, L0, F0, c1, c2, c3, c4, c5, _, c7, c8⟩ := drawK_trace _ _ r _ l 0 [] [] t A hk'
  simp only [Nat.zero_add] at c3 c4 c7 c8
  obtain ⟨hlen, hget⟩ := mapM_get h1
  have hlen' : l.length = ops.size := by simpa using hlen
  let C : Canon rec ops l t A := ⟨T, M, V, c1, c2, c3, hfit, hclosed, fun i j o b hi hbk hmem hj => by
    have q1 : (drawChk (Region.before ops) l).any (fun p => p.1 == i) = true := List.any_eq_true.2 ⟨_, hmem, by simp⟩
    have q2 : (drawChk (Region.before ops) l).any (fun p => p.2 == j) = true := List.any_eq_true.2 ⟨_, hmem, by simp⟩
    exact chkOk_spec c5 hmem (c7 i o b hi q1 hbk) (c8 j _ (List.getElem?_eq_getElem hj) q2)⟩
  refine wpIn_region_any hm ?_
  -- the drawn number turns nothing
  obtain ⟨s0, ev0⟩ := hs.of_heap (W' := { W with drawn := W.drawn + 1 }) rfl rfl rfl rfl
  have main : ∀ (fuel : Nat) (L : Array Bool) (a : Act) (w : World) (tc : List Value) (p : Nat) (ι' : Iota), L.size = ops.size → L.count false = fuel →
      (∀ j, Lst L j → ∃ o, ops[j]? = some o ∧ ∀ e ∈ o.after, Region.binds .any e = true → Lst L e.on) → p ≤ l.length → Sl l t V (Lst L) tc →
      (∀ j o, l[j]? = some o → isEff o = true → (Lst L j ↔ j < p)) → Sim P base (M p) ι' w → LRel (M p) ι' w tc a.tmps.toList → a.defers = act.defers → Ev base A ι W (M p) ι' w →
      wpAnyIn (FW ro) n P .any ops (Post P base lo K r A ι W) fuel L a w := by
    intro fuel
    induction fuel with
    | zero =>
      intro L a w tc p ι' hsz hcnt hcl hp hsl heff hs' ht' hdf hev
      have hall : ∀ j, j < ops.size → Lst L j := fun j hj => by
        have : j < L.size := by omega
        unfold Lst
        cases hv : L[j] with
        | true => simp [Array.getD, this, hv]
        | false =>
          exfalso
          have hmem : false ∈ L := by rw [← hv]; exact Array.getElem_mem this
          have := Array.count_pos_iff.2 hmem
          omega
      obtain ⟨f1, f2⟩ := C.last (S := Lst L) (fun j hj => hall j (by omega)) hp hsl heff
      refine ⟨?_, .normal, T l.length, M l.length, ι', c4, .normal, ?_, ?_, ?_, ?_⟩
      · cases hrd : Region.ready .any ops L with
        | nil => rfl
        | cons x xs =>
          exfalso
          have : x ∈ Region.ready .any ops L := by rw [hrd]; exact List.mem_cons_self
          rw [mem_ready] at this
          obtain ⟨q1, o, q2, _⟩ := this
          exact (not_lst q1).1 (hall x (Array.getElem?_eq_some_iff.1 q2).1)
      · rw [← show M p = M l.length from f2]; exact hs'
      · rw [← show M p = M l.length from f2, ← show tc = T l.length from f1]; exact ht'
      · rw [hdf]; exact hd.ev hev
      · rw [← show M p = M l.length from f2]; exact hev
    | succ fuel ih =>
      intro L a w tc p ι' hsz hcnt hcl hp hsl heff hs' ht' hdf hev
      refine ⟨fun hrd => ?_, fun i hi => ?_⟩
      · have hall := ready_some hclosed hsz hrd
        obtain ⟨f1, f2⟩ := C.last (S := Lst L) (fun j hj => hall j (by omega)) hp hsl heff
        refine ⟨.normal, T l.length, M l.length, ι', c4, .normal, ?_, ?_, ?_, ?_⟩
        · rw [← show M p = M l.length from f2]; exact hs'
        · rw [← show M p = M l.length from f2, ← show tc = T l.length from f1]; exact ht'
        · rw [hdf]; exact hd.ev hev
        · rw [← show M p = M l.length from f2]; exact hev
      · rw [mem_ready] at hi
        obtain ⟨hnl, oc, hoc, hrdy⟩ := hi
        obtain ⟨hni, hisz⟩ := not_lst hnl
        obtain ⟨o, hio, hcomp⟩ := hget i oc (by simpa using hoc)
        obtain ⟨p', hp', hop, heff'⟩ := C.next hg ⟨hcl⟩ hp hsl heff hio hoc hni hrdy
        have hk0 : operR rec o tc (M p) = some (V i, M p') := hop
        have hkk : operK rec o tc (M p) (fun t' M' => some (.agg t'.toArray, M')) = some (.agg (setT tc o.dst (V i)).toArray, M p') := by
          rw [operK_na, hk0]; rfl
        have hbw : base ≤ w.heap.size := Nat.le_trans (Nat.le_trans hb hlo) hev.size
        have := operStep hrec hcomp hs' ht' hbw hkk ro n (wpAnyIn (FW ro) n P .any ops (Post P base lo K r A ι W) fuel (L.setIfInBounds i true)) (Post P base lo K r A ι W) (by
          intro t2 A2 ι2 W2 a2 k1 k2 k3 k4 k5
          have e2 : A2 = M p' := by cases k1; rfl
          have e1 : t2 = setT tc o.dst (V i) := by
            have h1 := congrArg (fun z => match z with | some (Value.agg x, _) => x.toList | _ => []) k1
            simpa using h1
          subst e2; subst e1
          have hset := fun j => Lst.set (L := L) hisz j
          refine ih _ a2 W2 _ p' ι2 (by simp [hsz]) (count_set' hnl hcnt) (fun j hj => ?_) hp' (hsl.step C.dist hio fun j => hset j) (fun j b hj hb => by rw [hset j]; exact heff' j b hj hb) k2 k3 (k4.trans hdf) (hev.trans k5)
          rcases (hset j).1 hj with hj | rfl
          · obtain ⟨ob, ho1, ho2⟩ := hcl j hj
            exact ⟨ob, ho1, fun e he hbd => (hset _).2 (.inl (ho2 e he hbd))⟩
          · exact ⟨oc, hoc, fun e he hbd => (hset _).2 (.inl (hrdy e he hbd))⟩)
        unfold wpOpIn
        rw [hoc]
        exact this
  refine main ops.size _ act _ t 0 ι (by simp) (by simp) (fun j hj => ?_) (Nat.zero_le _) ?_ (fun j o _ _ => ?_) ?_ ?_ rfl ?_
  · exfalso
    unfold Lst at hj
    by_cases hlt : j < ops.size <;> simp [Array.getD, hlt] at hj
  · refine ⟨rfl, fun j o d _ hj => ?_, fun d _ => rfl⟩
    exfalso
    unfold Lst at hj
    by_cases hlt : j < ops.size <;> simp [Array.getD, hlt] at hj
  · refine ⟨fun hj => ?_, fun hj => absurd hj (Nat.not_lt_zero _)⟩
    exfalso
    unfold Lst at hj
    by_cases hlt : j < ops.size <;> simp [Array.getD, hlt] at hj
  · rw [c2]; exact s0
  · rw [c2]; exact ht.mono ev0.le
  · rw [c2]; exact ev0

/-! #### variables that are made at any time -/

theorem isFirst_inv {o : AOper} (h : isFirst o = true) : ∃ z d, o.op = .alloc z ∧ o.guard = none ∧ o.dst = some d := by
  unfold isFirst at h
  split at h
  · rename_i z d h1 h2 h3; exact ⟨z, d, h1, h2, h3⟩
  · cases h

theorem first_run {rec : Rec} : ∀ (f : List AOper) (t : List Value) (A : AMem) (K : List Value → AMem → Res) (r : Value × AMem), (∀ o ∈ f, isFirst o = true) → (f.Pairwise fun a b => ∀ d, a.dst = some d → b.dst ≠ some d) → opsK rec f t A K = some r →
    ∃ (t1 : List Value) (A1 : AMem) (ρ : Nat → Nat), K t1 A1 = some r ∧ A.length ≤ A1.length ∧ (∀ a : Nat, a < A.length → A1[a]? = A[a]?) ∧ t1.length = t.length ∧ (∀ d, (∀ o ∈ f, o.dst ≠ some d) → t1[d]? = t[d]?) ∧
      (∀ o d z, o ∈ f → o.dst = some d → o.op = .alloc z → (d < t.length → t1[d]? = some (.pointer (some ⟨ρ d, 0, none⟩))) ∧ A1[ρ d]? = some (.cells z ⟨false, 0⟩) ∧ A.length ≤ ρ d) ∧
      (∀ o o' d d', o ∈ f → o' ∈ f → o.dst = some d → o'.dst = some d' → d ≠ d' → ρ d ≠ ρ d')
  | [], t, A, K, r, _, _, h => ⟨t, A, fun _ => 0, h, Nat.le_refl _, fun _ _ => rfl, rfl, fun _ _ => rfl, fun o d z ho => by simp at ho, fun o o' d d' ho => by simp at ho⟩
  | o :: f, t, A, K, r, hf, hp, h => by
    obtain ⟨z, d0, e1, e2, e3⟩ := isFirst_inv (hf o (by simp))
    rw [List.pairwise_cons] at hp
    obtain ⟨odst, oop, og⟩ := o
    simp only at e1 e2 e3
    subst e1; subst e2; subst e3
    have h' : opsK rec f (t.set d0 (.pointer (some ⟨A.length, 0, none⟩))) (A ++ [.cells z ⟨false, 0⟩]) K = some r := by
      simp only [opsK, operK, opK, newK, setTF_eq, setT] at h; exact h
    obtain ⟨t1, A1, ρ, k1, k2, k3, k4, k5, k6, k7⟩ := first_run f _ _ K r (fun o ho => hf o (by simp [ho])) hp.2 h'
    rw [List.length_append] at k2
    simp only [List.length_cons, List.length_nil] at k2
    have hne : ∀ o' ∈ f, o'.dst ≠ some d0 := fun o' ho' => hp.1 o' ho' d0 rfl
    refine ⟨t1, A1, fun d => if d = d0 then A.length else ρ d, k1, by omega, fun a ha => ?_, by rw [k4]; simp, fun d hd => ?_, fun o' d z' ho' hd hz => ?_, fun o' o'' d d' ho' ho'' hd hd' hdd => ?_⟩
    · rw [k3 a (by simp; omega), List.getElem?_append_left ha]
    · rw [k5 d (fun o' ho' => hd o' (by simp [ho'])), List.getElem?_set_ne]
      intro e; subst e; exact hd _ List.mem_cons_self rfl
    · rcases List.mem_cons.1 ho' with rfl | ho1
      · cases hd; cases hz
        simp only [if_true]
        refine ⟨fun hlt => ?_, ?_, Nat.le_refl _⟩
        · rw [k5 d0 hne, List.getElem?_set_self (by simpa using hlt)]
        · rw [k3 A.length (by simp)]; simp
      · have : d ≠ d0 := fun e => hne o' ho1 (e ▸ hd)
        simp only [this, if_false]
        obtain ⟨q1, q2, q3⟩ := k6 o' d z' ho1 hd hz
        rw [List.length_append] at q3
        exact ⟨fun hlt => q1 (by simpa using hlt), q2, by omega⟩
    · have bound : ∀ o1 ∈ f, ∀ d1, o1.dst = some d1 → A.length < ρ d1 := fun o1 ho1 d1 hd1 => by
        obtain ⟨z2, d2, f1, _, f3⟩ := isFirst_inv (hf o1 (by simp [ho1]))
        obtain ⟨_, _, q3⟩ := k6 o1 d1 z2 ho1 hd1 f1
        rw [List.length_append] at q3
        simp only [List.length_cons, List.length_nil] at q3
        omega
      have far : ∀ o1 ∈ f, ∀ d1, o1.dst = some d1 → d1 ≠ d0 := fun o1 ho1 d1 hd1 e => hne o1 ho1 (e ▸ hd1)
      rcases List.mem_cons.1 ho' with rfl | ho1
      · cases hd
        rcases List.mem_cons.1 ho'' with rfl | ho2
        · cases hd'; exact absurd rfl hdd
        · have := bound o'' ho2 d' hd'
          simp only [if_true, Ne.symm hdd, if_false]
          omega
      · rcases List.mem_cons.1 ho'' with rfl | ho2
        · cases hd'
          have := bound o' ho1 d hd
          simp only [if_true, hdd, if_false]
          omega
        · simp only [far o' ho1 d hd, far o'' ho2 d' hd', if_false]
          exact k7 o' o'' d d' ho1 ho2 hd hd' hdd

theorem repO_dst (o : AOper) : (repO o).dst = o.dst := by unfold repO; split <;> rfl

theorem repO_not {o : AOper} (h : isFirst o = false) : repO o = o := by unfold repO; rw [h]; rfl

theorem firstChk_mem {bef : Array Nat} {l : List AOper} {i j : Nat} {a b : AOper} (hi : l[i]? = some a) (hj : l[j]? = some b) (ha : isFirst a = true) (hb : isEff b = true) (hbf : isFirst b = false) (h1 : preO bef i j = false) : (i, j) ∈ firstChk bef l := by
  unfold firstChk
  rw [List.mem_flatMap]
  refine ⟨(a, i), List.mem_filter.2 ⟨by rw [List.mem_zipIdx_iff_getElem?]; exact hi, ha⟩, List.mem_map.2 ⟨(b, j), List.mem_filter.2 ⟨by rw [List.mem_zipIdx_iff_getElem?]; exact hj, ?_⟩, rfl⟩⟩
  simp [hb, hbf, h1]

theorem firstRd_spec {bef : Array Nat} {l : List AOper} (h : firstRd bef l = true) {i j : Nat} {a b : AOper} (hi : l[i]? = some a) (hj : l[j]? = some b) (hne : i ≠ j) (ha : isFirst a = true) {d : Nat} (hd : a.dst = some d) (hr : d ∈ readsO b) : preO bef i j = true := by
  unfold firstRd at h
  rw [List.all_eq_true] at h
  have h1 := h (a, i) (by rw [List.mem_zipIdx_iff_getElem?]; exact hi)
  simp only [ha, Bool.not_true, Bool.false_or] at h1
  rw [List.all_eq_true] at h1
  have h2 := h1 (b, j) (by rw [List.mem_zipIdx_iff_getElem?]; exact hj)
  simp only [beq_eq_false_iff_ne.2 hne, Bool.false_or, hd, Bool.or_eq_true, Bool.not_eq_true'] at h2
  rcases h2 with h2 | h2
  · have : (readsO b).contains d = true := by simpa using hr
    rw [this] at h2; cases h2
  · exact h2

/-- The block stays as it was. -/
theorem Canon.keeps {rec : Rec} {ops : Array Oper} {L : List AOper} {t : List Value} {A : AMem} (C : Canon rec ops L t A) (hg : GrowRec rec) {b : Nat} {z : List Value} {m0 : Meta} (h0 : A[b]? = some (.cells z m0)) : ∀ (p : Nat), p ≤ L.length →
    (∀ j o, L[j]? = some o → j < p → isEff o = true → (C.M j).ver b = (C.M (j + 1)).ver b) → ∃ m, (C.M p)[b]? = some (.cells z m)
  | 0, _, _ => ⟨m0, by rw [C.m0]; exact h0⟩
  | p + 1, hp, hv => by
    obtain ⟨m, ih⟩ := C.keeps hg h0 p (by omega) fun j o hj hjp he => hv j o hj (by omega) he
    have hi := List.getElem?_eq_getElem (l := L) (i := p) (by omega)
    obtain ⟨s1, _⟩ := C.step _ _ hi
    by_cases he : isEff L[p] = true
    · have hver := hv p _ hi (by omega) he
      rcases (operR_grow hg s1 b).2 z m ih with hd | ⟨cs', m', q1, q2, q3⟩
      · exfalso
        have hd' : (C.M (p + 1))[b]? = some .dead := hd
        unfold AMem.ver at hver
        rw [ih, hd'] at hver
        cases hver
      · have q1' : (C.M (p + 1))[b]? = some (.cells cs' m') := q1
        have hm : m'.ver = m.ver := by
          unfold AMem.ver at hver
          rw [ih, q1'] at hver
          exact (Option.some.inj hver).symm
        rw [q3 hm] at q1'
        exact ⟨m', q1'⟩
    · have e : C.M (p + 1) = C.M p := operR_same (by simpa using he) s1
      rw [e]; exact ⟨m, ih⟩

theorem draw_first (hm : P.follows .mixedOrders = true) {rec : Rec} (hrec : RecOk P rec) (hg : GrowRec rec) {id : Nat} {ops : Array Oper} {l : List AOper} (h1 : ops.toList.mapM (compOper P ops) = some l)
    (hclosed : closedE ops (Region.before ops) = true) (hfit : drawFit (Region.before ops) (l.map repO) = true) (hfr : firstRd (Region.before ops) l = true) :
    CodeOk P (.region id ops true) (code rec (.draw (l.filter isFirst) 0 ((l.map repO).map fun a => (a, none)) (drawChk (Region.before ops) (l.map repO) ++ firstChk (Region.before ops) l))) := by
  intro K t A r hk ro n base lo ι W act hr hs ht hd hlo hb
  have hLl : (l.map repO).length = l.length := by simp
  have hLi : ∀ {i : Nat} {o : AOper}, l[i]? = some o → (l.map repO)[i]? = some (repO o) := fun h => by simp [h]
  have hLinv : ∀ {i : Nat} {o : AOper}, (l.map repO)[i]? = some o → ∃ o0, l[i]? = some o0 ∧ o = repO o0 := fun {i o} h => by
    rw [List.getElem?_map] at h
    obtain ⟨o0, q1, q2⟩ := Option.map_eq_some_iff.1 h
    exact ⟨o0, q1, q2.symm⟩
  have hdist : ∀ (i j : Nat) (a b : AOper) (d : Nat), i ≠ j → l[i]? = some a → l[j]? = some b → a.dst = some d → b.dst ≠ some d := fun i j a b d hne hi hj hd' => by
    have := ((drawFit_spec hfit (hLi hi) (hLi hj) hne).2 d (by rw [repO_dst]; exact hd')).2
    rwa [repO_dst] at this
  have hpair : (l.filter isFirst).Pairwise fun a b => ∀ d, a.dst = some d → b.dst ≠ some d := by
    refine List.Pairwise.filter _ (List.pairwise_iff_getElem.2 fun i j hi hj hij d hd' => ?_)
    exact hdist i j _ _ d (Nat.ne_of_lt hij) (List.getElem?_eq_getElem hi) (List.getElem?_eq_getElem hj) hd'
  have hk0 : opsK rec (l.filter isFirst) t A (fun t M => drawK rec (drawChk (Region.before ops) (l.map repO) ++ firstChk (Region.before ops) l) M.length ((l.map repO).map fun a => (a, none)) 0 [] [] t M (fun t M => K .normal t M)) = some r := hk
  obtain ⟨t1, A1, ρ, hk', hAl, hA, htl, htd, hρ, hρi⟩ := first_run _ t A _ r (fun o ho => (List.mem_filter.1 ho).2) hpair hk0
  obtain ⟨T, M, V, L0, F0, c1, c2, c3, c4, c5, _, c7, c8⟩ := drawK_trace _ _ r _ (l.map repO) 0 [] [] t1 A1 hk'
  simp only [Nat.zero_add] at c3 c4 c7 c8
  obtain ⟨hlen, hget⟩ := mapM_get h1
  have hlen' : l.length = ops.size := by simpa using hlen
  let C : Canon rec ops (l.map repO) t1 A1 := ⟨T, M, V, c1, c2, c3, hfit, hclosed, fun i j o b hi hbk hmem hj => by
    have q1 : (drawChk (Region.before ops) (l.map repO) ++ firstChk (Region.before ops) l).any (fun p => p.1 == i) = true := List.any_eq_true.2 ⟨_, List.mem_append_left _ hmem, by simp⟩
    have q2 : (drawChk (Region.before ops) (l.map repO) ++ firstChk (Region.before ops) l).any (fun p => p.2 == j) = true := List.any_eq_true.2 ⟨_, List.mem_append_left _ hmem, by simp⟩
    exact chkOk_spec c5 (List.mem_append_left _ hmem) (c7 i o b hi q1 hbk) (c8 j _ (List.getElem?_eq_getElem hj) q2)⟩
  -- the variables' places
  have hfo : ∀ {i : Nat} {o : AOper}, l[i]? = some o → isFirst o = true → ∃ z d, o.op = .alloc z ∧ o.guard = none ∧ o.dst = some d ∧ d < t.length ∧ V i = .pointer (some ⟨ρ d, 0, none⟩) ∧ M (i + 1) = M i ∧
      A1[ρ d]? = some (.cells z ⟨false, 0⟩) ∧ A.length ≤ ρ d ∧ blockOf (repO o) (T i) = some (ρ d) := fun {i o} hi hfo => by
    obtain ⟨z, d, e1, e2, e3⟩ := isFirst_inv hfo
    have hmem : o ∈ l.filter isFirst := List.mem_filter.2 ⟨List.mem_of_getElem? hi, hfo⟩
    obtain ⟨q1, q2, q3⟩ := hρ o d z hmem e3 e1
    have hilt : i < l.length := (List.getElem?_eq_some_iff.1 hi).1
    have hrep : repO o = ⟨some d, .nilCheck (.tmp d), none⟩ := by unfold repO; rw [if_pos hfo, e3]; rfl
    obtain ⟨s1, s2⟩ := c3 i _ (hLi hi)
    rw [hrep] at s1
    have hTd : (T i)[d]? = t1[d]? := (C.slots i (by rw [hLl]; omega)).2.2 d fun j b hj hji hbd => by
      obtain ⟨b0, g1, g2⟩ := hLinv hj
      subst g2
      rw [repO_dst] at hbd
      exact hdist j i b0 o d (Nat.ne_of_lt hji) g1 hi hbd e3
    by_cases hdl : d < t.length
    · have hTd' : (T i).getD d undef = .pointer (some ⟨ρ d, 0, none⟩) := by rw [List.getD_eq_getElem?_getD, hTd, q1 hdl]; rfl
      have s1' : some (Value.pointer (some ⟨ρ d, 0, none⟩), M i) = some (V i, M (i + 1)) := by
        rw [← s1]
        simp only [operR, opV, opK, ev, hTd']
      have s3 := Option.some.inj s1'
      refine ⟨z, d, e1, e2, e3, hdl, (congrArg Prod.fst s3).symm, (congrArg Prod.snd s3).symm, q2, q3, ?_⟩
      rw [hrep]
      simp only [blockOf, ev, hTd']
    · exfalso
      have hTd' : (T i).getD d undef = undef := by rw [List.getD_eq_getElem?_getD, hTd, List.getElem?_eq_none (by rw [htl]; omega)]; rfl
      simp only [operR, opV, opK, ev, hTd'] at s1
      simp only [undef] at s1
      cases s1
  have hver : ∀ {i j : Nat} {o b : AOper} {d : Nat}, l[i]? = some o → isFirst o = true → o.dst = some d → (l.map repO)[j]? = some b → isEff b = true → preO (Region.before ops) i j = false → (M j).ver (ρ d) = (M (j + 1)).ver (ρ d) := fun {i j o b d} hi hf hdd hj hbe hp => by
    obtain ⟨z, d', e1, e2, e3, e4, e5, e6, e7, e8, e9⟩ := hfo hi hf
    rw [hdd] at e3; cases e3
    obtain ⟨b0, g1, g2⟩ := hLinv hj
    have hbf : isFirst b0 = false := by
      cases hq : isFirst b0 with
      | false => rfl
      | true =>
        obtain ⟨zz, dd, f1, f2, f3⟩ := isFirst_inv hq
        subst g2
        unfold repO at hbe
        rw [if_pos hq] at hbe
        simp [isEff, kindOf] at hbe
    rw [repO_not hbf] at g2
    subst g2
    have hmem := firstChk_mem hi g1 hf hbe hbf hp
    have q1 : (drawChk (Region.before ops) (l.map repO) ++ firstChk (Region.before ops) l).any (fun p => p.1 == i) = true := List.any_eq_true.2 ⟨_, List.mem_append_right _ hmem, by simp⟩
    have q2 : (drawChk (Region.before ops) (l.map repO) ++ firstChk (Region.before ops) l).any (fun p => p.2 == j) = true := List.any_eq_true.2 ⟨_, List.mem_append_right _ hmem, by simp⟩
    exact chkOk_spec c5 (List.mem_append_right _ hmem) (c7 i _ _ (hLi hi) q1 e9) (c8 j _ hj q2)
  refine wpIn_region_any hm ?_
  obtain ⟨s0, ev0⟩ := hs.of_heap (W' := { W with drawn := W.drawn + 1 }) rfl rfl rfl rfl
  obtain ⟨s1, le1⟩ := s0.more hAl hA
  have ev1 : Ev base A ι W A1 ι { W with drawn := W.drawn + 1 } := ev0.trans ⟨le1, .refl _ _, fun _ _ h => h, fun _ lp h => ⟨lp, h⟩⟩
  have main : ∀ (fuel : Nat) (L : Array Bool) (a : Act) (w : World) (tc1 tc : List Value) (p : Nat) (ι' : Iota), L.size = ops.size → L.count false = fuel →
      (∀ j, Lst L j → ∃ o, ops[j]? = some o ∧ ∀ e ∈ o.after, Region.binds .any e = true → Lst L e.on) → p ≤ (l.map repO).length → Sl (l.map repO) t1 V (Lst L) tc1 →
      (tc.length = tc1.length ∧ ∀ d, (∀ j o, l[j]? = some o → isFirst o = true → ¬ Lst L j → o.dst ≠ some d) → tc[d]? = tc1[d]?) →
      (∀ j o, (l.map repO)[j]? = some o → isEff o = true → (Lst L j ↔ j < p)) → (∀ j o d, l[j]? = some o → isFirst o = true → ¬ Lst L j → o.dst = some d → ι' (ρ d) = none) →
      Sim P base (M p) ι' w → LRel (M p) ι' w tc a.tmps.toList → a.defers = act.defers → Ev base A ι W (M p) ι' w →
      wpAnyIn (FW ro) n P .any ops (Post P base lo K r A ι W) fuel L a w := by
    intro fuel
    induction fuel with
    | zero =>
      intro L a w tc1 tc p ι' hsz hcnt hcl hp hsl hmk heff hfresh hs' ht' hdf hev
      have hall : ∀ j, j < ops.size → Lst L j := fun j hj => by
        have : j < L.size := by omega
        unfold Lst
        cases hv : L[j] with
        | true => simp [Array.getD, this, hv]
        | false =>
          exfalso
          have hmem : false ∈ L := by rw [← hv]; exact Array.getElem_mem this
          have := Array.count_pos_iff.2 hmem
          omega
      have htc : tc = tc1 := List.ext_getElem? fun d => hmk.2 d fun j o hj hf hnl => absurd (hall j (by have := (List.getElem?_eq_some_iff.1 hj).1; omega)) hnl
      obtain ⟨f1, f2⟩ := C.last (S := Lst L) (fun j hj => hall j (by rw [hLl] at hj; omega)) hp hsl heff
      refine ⟨?_, .normal, T (l.map repO).length, M (l.map repO).length, ι', c4, .normal, ?_, ?_, ?_, ?_⟩
      · cases hrd : Region.ready .any ops L with
        | nil => rfl
        | cons x xs =>
          exfalso
          have : x ∈ Region.ready .any ops L := by rw [hrd]; exact List.mem_cons_self
          rw [mem_ready] at this
          obtain ⟨q1, o, q2, _⟩ := this
          exact (not_lst q1).1 (hall x (Array.getElem?_eq_some_iff.1 q2).1)
      · rw [← show M p = M (l.map repO).length from f2]; exact hs'
      · rw [← show M p = M (l.map repO).length from f2, ← show tc1 = T (l.map repO).length from f1, ← htc]; exact ht'
      · rw [hdf]; exact hd.ev hev
      · rw [← show M p = M (l.map repO).length from f2]; exact hev
    | succ fuel ih =>
      intro L a w tc1 tc p ι' hsz hcnt hcl hp hsl hmk heff hfresh hs' ht' hdf hev
      refine ⟨fun hrd => ?_, fun i hi => ?_⟩
      · have hall := ready_some hclosed hsz hrd
        have htc : tc = tc1 := List.ext_getElem? fun d => hmk.2 d fun j o hj hf hnl => absurd (hall j (by have := (List.getElem?_eq_some_iff.1 hj).1; omega)) hnl
        obtain ⟨f1, f2⟩ := C.last (S := Lst L) (fun j hj => hall j (by rw [hLl] at hj; omega)) hp hsl heff
        refine ⟨.normal, T (l.map repO).length, M (l.map repO).length, ι', c4, .normal, ?_, ?_, ?_, ?_⟩
        · rw [← show M p = M (l.map repO).length from f2]; exact hs'
        · rw [← show M p = M (l.map repO).length from f2, ← show tc1 = T (l.map repO).length from f1, ← htc]; exact ht'
        · rw [hdf]; exact hd.ev hev
        · rw [← show M p = M (l.map repO).length from f2]; exact hev
      · rw [mem_ready] at hi
        obtain ⟨hnl, oc, hoc, hrdy⟩ := hi
        obtain ⟨hni, hisz⟩ := not_lst hnl
        obtain ⟨o, hio, hcomp⟩ := hget i oc (by simpa using hoc)
        have hilt : i < l.length := (List.getElem?_eq_some_iff.1 hio).1
        obtain ⟨p', hp', hop, heff'⟩ := C.next hg ⟨hcl⟩ hp hsl heff (hLi hio) hoc hni hrdy
        have hbw : base ≤ w.heap.size := Nat.le_trans (Nat.le_trans hb hlo) hev.size
        have hset := fun j => Lst.set (L := L) hisz j
        have hcl' : ∀ j, Lst (L.setIfInBounds i true) j → ∃ o, ops[j]? = some o ∧ ∀ e ∈ o.after, Region.binds .any e = true → Lst (L.setIfInBounds i true) e.on := fun j hj => by
          rcases (hset j).1 hj with hj | rfl
          · obtain ⟨ob, ho1, ho2⟩ := hcl j hj
            exact ⟨ob, ho1, fun e he hbd => (hset _).2 (.inl (ho2 e he hbd))⟩
          · exact ⟨oc, hoc, fun e he hbd => (hset _).2 (.inl (hrdy e he hbd))⟩
        have hsl' : Sl (l.map repO) t1 V (Lst (L.setIfInBounds i true)) (setT tc1 (repO o).dst (V i)) := hsl.step C.dist (hLi hio) fun j => hset j
        -- a place that is not taken yet
        have hroom : ∀ j o' d, l[j]? = some o' → isFirst o' = true → ¬ Lst L j → o'.dst = some d → ∃ z m, o'.op = .alloc z ∧ (M p)[ρ d]? = some (.cells z m) := fun j o' d hj hf hnj hdd => by
          obtain ⟨z, d', e1, e2, e3, e4, e5, e6, e7, e8, e9⟩ := hfo hj hf
          rw [hdd] at e3; cases e3
          obtain ⟨m, hm'⟩ := C.keeps hg e7 p hp fun k b hk hkp hbe => by
            refine hver hj hf hdd hk hbe ?_
            cases hq : preO (Region.before ops) j k with
            | false => rfl
            | true => exact absurd (pre_listed hclosed hcl k ((heff k b hk hbe).2 hkp) j hq) hnj
          exact ⟨z, m, e1, hm'⟩
        unfold wpOpIn
        rw [hoc]
        cases hisf : isFirst o with
        | false =>
          rw [repO_not hisf] at hop hsl'
          have hop1 : operR rec o tc1 (M p) = some (V i, M p') := hop
          have hop2 : operR rec o tc (M p) = some (V i, M p') := by
            rw [← hop1]
            refine operR_congr rec o (M p) fun d hdr => hmk.2 d fun j o' hj hf hnj hdd => ?_
            have hji : j ≠ i := fun e => by subst e; rw [hio] at hj; cases hj; rw [hisf] at hf; cases hf
            have := firstRd_spec hfr hj hio hji hf hdd hdr
            exact hnj (pre_ready hclosed hcl hoc hrdy j this)
          have hkk : operK rec o tc (M p) (fun t' M' => some (.agg t'.toArray, M')) = some (.agg (setT tc o.dst (V i)).toArray, M p') := by
            rw [operK_na, hop2]; rfl
          refine operStep hrec hcomp hs' ht' hbw hkk ro n (wpAnyIn (FW ro) n P .any ops (Post P base lo K r A ι W) fuel (L.setIfInBounds i true)) (Post P base lo K r A ι W) ?_
          intro t2 A2 ι2 W2 a2 k1 k2 k3 k4 k5
          have e2 : A2 = M p' := by cases k1; rfl
          have e1 : t2 = setT tc o.dst (V i) := by
            have h1 := congrArg (fun z => match z with | some (Value.agg x, _) => x.toList | _ => []) k1
            simpa using h1
          subst e2; subst e1
          refine ih _ a2 W2 (setT tc1 o.dst (V i)) _ p' ι2 (by simp [hsz]) (count_set' hnl hcnt) hcl' hp' hsl' ⟨?_, fun d hdn => ?_⟩ (fun j b hj hb => by rw [hset j]; exact heff' j b hj hb) (fun j o' d hj hf hnj hdd => ?_) k2 k3 (k4.trans hdf) (hev.trans k5)
          · cases o.dst <;> simp [setT, hmk.1]
          · have hold := fun (h : ∀ j o', l[j]? = some o' → isFirst o' = true → ¬ Lst L j → o'.dst ≠ some d) => hmk.2 d h
            cases hod : o.dst with
            | none =>
              refine hold fun j o' hj hf hnj => hdn j o' hj hf fun hl => ?_
              rcases (hset j).1 hl with h | h
              · exact hnj h
              · subst h; rw [hio] at hj; cases hj; rw [hisf] at hf; cases hf
            | some d0 =>
              simp only [setT, List.getElem?_set, hmk.1]
              split
              · rfl
              · refine hold fun j o' hj hf hnj => hdn j o' hj hf fun hl => ?_
                rcases (hset j).1 hl with h | h
                · exact hnj h
                · subst h; rw [hio] at hj; cases hj; rw [hisf] at hf; cases hf
          · have hnj' : ¬ Lst L j := fun h => hnj ((hset j).2 (.inl h))
            obtain ⟨z, m, _, hroom'⟩ := hroom j o' d hj hf hnj' hdd
            exact k5.le.old _ (List.getElem?_eq_some_iff.1 hroom').1 (hfresh j o' d hj hf hnj' hdd)
        | true =>
          obtain ⟨z, d, e1, e2, e3, e4, e5, e6, e7, e8, e9⟩ := hfo hio hisf
          obtain ⟨z', m, e1', hroom'⟩ := hroom i o d hio hisf hni e3
          rw [e1] at e1'; cases e1'
          have hιn := hfresh i o d hio hisf hni e3
          have hpe : M p' = M p := by
            have hpure : isEff (repO o) = false := by
              unfold repO; rw [if_pos hisf]; rfl
            have := operR_same hpure hop
            exact this
          refine claimStep hcomp e1 e2 e3 hs' ht' hbw hιn hroom' ro n (wpAnyIn (FW ro) n P .any ops (Post P base lo K r A ι W) fuel (L.setIfInBounds i true)) (Post P base lo K r A ι W) ?_
          rintro W2 a2 k2 k3 k4 ⟨ob, rfl⟩
          have hlive : ∀ (a b o : Nat), ι' a = some (b, o) → upd ι' (ρ d) w.heap.size 0 a = some (b, o) := fun a b o hi => by
            rw [upd_other _ _ _ _ (fun e => by subst e; rw [hιn] at hi; cases hi)]; exact hi
          obtain ⟨w1, w2, w3⟩ := Ev.alloc_w (W := w) hbw ob
          have hev2 : Ev base A ι W (M p) (upd ι' (ρ d) w.heap.size 0) (w.alloc ob) :=
            ⟨⟨hev.le.dead, fun a b o hi => (hev.le.live a b o hi).imp (fun h => h) (hlive a b o), fun b => Nat.le_trans (hev.le.size b) (szW_alloc _ b), hev.le.ver, hev.le.len, fun a ha hn => by
              rw [upd_other _ _ _ _ (fun e => by omega)]; exact hev.le.old a ha hn⟩, hev.below.trans w1, fun r ds h => w2 r ds (hev.deferred r ds h), fun r lp h => by
              obtain ⟨lp', h'⟩ := hev.loops r lp h
              exact w3 r lp' h'⟩
          rw [repO_dst, e3, e5] at hsl'
          have hmk' : (setT tc (some d) (.pointer (some ⟨ρ d, 0, none⟩))).length = (setT tc1 (some d) (.pointer (some ⟨ρ d, 0, none⟩))).length ∧ ∀ d', (∀ j o, l[j]? = some o → isFirst o = true → ¬ Lst (L.setIfInBounds i true) j → o.dst ≠ some d') →
              (setT tc (some d) (.pointer (some ⟨ρ d, 0, none⟩)))[d']? = (setT tc1 (some d) (.pointer (some ⟨ρ d, 0, none⟩)))[d']? := by
            refine ⟨by simp [setT, hmk.1], fun d' hdn => ?_⟩
            simp only [setT, List.getElem?_set, hmk.1]
            split
            · rfl
            · rename_i hne
              refine hmk.2 d' fun j o' hj hf hnj hdd => ?_
              refine hdn j o' hj hf (fun hl => ?_) hdd
              rcases (hset j).1 hl with h | h
              · exact hnj h
              · subst h; rw [hio] at hj; cases hj; rw [e3] at hdd; exact hne (Option.some.inj hdd)
          refine ih _ a2 _ _ _ p' _ (by simp [hsz]) (count_set' hnl hcnt) hcl' hp' hsl' hmk' (fun j b hj hb => by rw [hset j]; exact heff' j b hj hb) (fun j o' d' hj hf hnj hdd => ?_) (by rw [hpe]; exact k2) (by rw [hpe]; exact k3) (k4.trans hdf) (by rw [hpe]; exact hev2)
          have hnj' : ¬ Lst L j := fun h => hnj ((hset j).2 (.inl h))
          have hji : j ≠ i := fun e => hnj ((hset j).2 (.inr e))
          have hdd' : d' ≠ d := fun e => by subst e; exact hdist j i o' o d' hji hj hio hdd e3
          have hne := hρi o' o d' d (List.mem_filter.2 ⟨List.mem_of_getElem? hj, hf⟩) (List.mem_filter.2 ⟨List.mem_of_getElem? hio, hisf⟩) hdd e3 hdd'
          rw [upd_other _ _ _ _ hne]
          exact hfresh j o' d' hj hf hnj' hdd
  have hno : ∀ j, ¬ Lst (Array.replicate ops.size false) j := fun j hj => by
    unfold Lst at hj
    by_cases hlt : j < ops.size <;> simp [Array.getD, hlt] at hj
  refine main ops.size _ act _ t1 t 0 ι (by simp) (by simp) (fun j hj => absurd hj (hno j)) (Nat.zero_le _) ⟨rfl, fun j o d _ hj => absurd hj (hno j), fun d _ => rfl⟩ ⟨htl.symm, fun d hdn => ?_⟩
    (fun j o _ _ => ⟨fun hj => absurd hj (hno j), fun hj => absurd hj (Nat.not_lt_zero _)⟩) (fun j o d hj hf _ hdd => ?_) ?_ ?_ rfl ?_
  · refine (htd d fun o ho => ?_).symm
    obtain ⟨hmem, hf⟩ := List.mem_filter.1 ho
    obtain ⟨j, hj⟩ := List.getElem?_of_mem hmem
    exact hdn j o hj hf (hno j)
  · obtain ⟨z, d', e1, e2, e3, e4, e5, e6, e7, e8, e9⟩ := hfo hj hf
    rw [hdd] at e3; cases e3
    cases hi : ι (ρ d) with
    | none => rfl
    | some q =>
      have := hs.lt (b := q.1) (o := q.2) hi
      omega
  · rw [c2]; exact s1
  · rw [c2]; exact ht.mono ev1.le
  · rw [c2]; exact ev1

theorem drawsOk (hm : P.follows .mixedOrders = true) : DrawsOk P := by
  intro rec hrec hg id ops l first nres l' chk h1 hclosed h2
  unfold drawOf at h2
  split at h2
  · rename_i hfit
    cases h2
    exact draw_plain hm hrec hg h1 hclosed hfit
  · split at h2
    · rename_i hc
      cases h2
      rw [Bool.and_eq_true] at hc
      exact draw_first hm hrec hg h1 hclosed hc.1 hc.2
    · cases h2

end
end Go.Ax
