/- Regions whose order is open: sound. -/
import Derived.Test.YtaepdefnomcllaaAxDraw2
set_option linter.unusedVariables false
set_option linter.unusedSimpArgs false
namespace Go.Ax
open Go Go.RowKit

section
variable {P : Program} {rec : Rec}

def Lst (L : Array Bool) (j : Nat) : Prop := L.getD j false = true

theorem Lst.set {L : Array Bool} {i : Nat} (hi : i < L.size) (j : Nat) : Lst (L.setIfInBounds i true) j ↔ Lst L j ∨ j = i := by
  unfold Lst
  by_cases e : i = j
  · subst e; simp [hi]
  · rw [getD_set_ne false e]
    exact ⟨.inl, fun h => h.resolve_right (Ne.symm e)⟩

theorem not_lst {L : Array Bool} {i : Nat} (h : L.getD i true = false) : ¬ Lst L i ∧ i < L.size := by
  unfold Lst
  by_cases hi : i < L.size
  · simp only [Array.getD, hi, dif_pos] at h ⊢
    rw [h]; exact ⟨by simp, trivial⟩
  · simp [Array.getD, hi] at h

theorem count_set' {L : Array Bool} {i n : Nat} (h : L.getD i true = false) (hc : L.count false = n + 1) : (L.setIfInBounds i true).count false = n := by
  have hi := (not_lst h).2
  have hg : L[i] = false := by simpa [Array.getD, hi] using h
  rw [Array.setIfInBounds, dif_pos hi, Array.count_set hi]
  simp [hg, hc]

/-- Some operation may come next, as long as one is left. -/
theorem ready_some {ops : Array Oper} (hc : closedE ops (Region.before ops) = true) {L : Array Bool} (hsz : L.size = ops.size) (h : Region.ready .any ops L = []) : ∀ j, j < ops.size → Lst L j := by
  intro j
  induction j using Nat.strongRecOn with
  | _ j ih =>
    intro hj
    have hg := Array.getElem?_eq_getElem hj
    cases hb : L.getD j true with
    | true =>
      unfold Lst
      have : j < L.size := by omega
      simpa [Array.getD, this] using hb
    | false =>
      exfalso
      have : j ∈ Region.ready .any ops L := by
        rw [mem_ready]
        refine ⟨hb, _, hg, fun e he hbd => ?_⟩
        have hlt := (closedE_spec hc hg).1 e he hbd
        exact ih e.on hlt (by omega)
      rw [h] at this; cases this

theorem drawsOk (hm : P.follows .mixedOrders = true) : DrawsOk P := by
  intro rec hrec hg id ops l first nres l' chk h1 hclosed h2
  unfold drawOf at h2
  split at h2
  · rename_i hfit
    cases h2
    intro K t A r hk ro n base lo ι W act hr hs ht hd hlo hb
    have hk' : drawK rec (drawChk (Region.before ops) l) A.length (l.map fun a => (a, none)) 0 [] [] t A (fun t M => K .normal t M) = some r := hk
    obtain ⟨T, M, V, L0, F0, c1, c2, c3, c4, c5, _, c7, c8⟩ := drawK_trace _ _ r _ l 0 [] [] t A hk'
    simp only [Nat.zero_add] at c3 c4 c7 c8
    obtain ⟨hlen, hget⟩ := mapM_get h1
    have hlen' : l.length = ops.size := by simpa using hlen
    let C : Canon rec ops l t A := ⟨T, M, V, c1, c2, c3, hfit, hclosed, fun i j o b hi hbk hmem hj => by
      have q1 : (drawChk (Region.before ops) l).any (fun p => p.1 == i) = true := List.any_eq_true.2 ⟨_, hmem, by simp⟩
      have q2 : (drawChk (Region.before ops) l).any (fun p => p.2 == j) = true := List.any_eq_true.2 ⟨_, hmem, by simp⟩
      exact chkOk_spec c5 hmem (c7 i o b hi q1 hbk) (c8 j _ (List.getElem?_eq_getElem hj) q2)⟩
    refine wpIn_region_any hm ?_
    -- the drawn number turns nothing
    obtain ⟨s0, ev0⟩ := hs.of_heap (W' := { W with drawn := W.drawn + 1 }) rfl rfl rfl rfl
    have main : ∀ (fuel : Nat) (L : Array Bool) (a : Act) (w : World) (tc : List Value) (p : Nat) (ι' : Iota), L.size = ops.size → L.count false = fuel →
        (∀ j, Lst L j → ∃ o, ops[j]? = some o ∧ ∀ e ∈ o.after, Region.binds .any e = true → Lst L e.on) → p ≤ l.length → Sl l t V (Lst L) tc →
        (∀ j o, l[j]? = some o → isEff o = true → (Lst L j ↔ j < p)) → Sim P base (M p) ι' w → LRel (M p) ι' w tc a.tmps.toList → a.defers = act.defers → Ev base A ι W (M p) ι' w →
        wpAnyIn (FW ro) n P .any ops (Post P base lo K r A ι W) fuel L a w := by
      intro fuel
      induction fuel with
      | zero =>
        intro L a w tc p ι' hsz hcnt hcl hp hsl heff hs' ht' hdf hev
        have hall : ∀ j, j < ops.size → Lst L j := fun j hj => by
          have : j < L.size := by omega
          unfold Lst
          cases hv : L[j] with
          | true => simp [Array.getD, this, hv]
          | false =>
            exfalso
            have hmem : false ∈ L := by rw [← hv]; exact Array.getElem_mem this
            have := Array.count_pos_iff.2 hmem
            omega
        obtain ⟨f1, f2⟩ := C.last (S := Lst L) (fun j hj => hall j (by omega)) hp hsl heff
        refine ⟨?_, .normal, T l.length, M l.length, ι', c4, .normal, ?_, ?_, ?_, ?_⟩
        · cases hrd : Region.ready .any ops L with
          | nil => rfl
          | cons x xs =>
            exfalso
            have : x ∈ Region.ready .any ops L := by rw [hrd]; exact List.mem_cons_self
            rw [mem_ready] at this
            obtain ⟨q1, o, q2, _⟩ := this
            exact (not_lst q1).1 (hall x (Array.getElem?_eq_some_iff.1 q2).1)
        · rw [← show M p = M l.length from f2]; exact hs'
        · rw [← show M p = M l.length from f2, ← show tc = T l.length from f1]; exact ht'
        · rw [hdf]; exact hd.ev hev
        · rw [← show M p = M l.length from f2]; exact hev
      | succ fuel ih =>
        intro L a w tc p ι' hsz hcnt hcl hp hsl heff hs' ht' hdf hev
        refine ⟨fun hrd => ?_, fun i hi => ?_⟩
        · have hall := ready_some hclosed hsz hrd
          obtain ⟨f1, f2⟩ := C.last (S := Lst L) (fun j hj => hall j (by omega)) hp hsl heff
          refine ⟨.normal, T l.length, M l.length, ι', c4, .normal, ?_, ?_, ?_, ?_⟩
          · rw [← show M p = M l.length from f2]; exact hs'
          · rw [← show M p = M l.length from f2, ← show tc = T l.length from f1]; exact ht'
          · rw [hdf]; exact hd.ev hev
          · rw [← show M p = M l.length from f2]; exact hev
        · rw [mem_ready] at hi
          obtain ⟨hnl, oc, hoc, hrdy⟩ := hi
          obtain ⟨hni, hisz⟩ := not_lst hnl
          obtain ⟨o, hio, hcomp⟩ := hget i oc (by simpa using hoc)
          obtain ⟨p', hp', hop, heff'⟩ := C.next hg ⟨hcl⟩ hp hsl heff hio hoc hni hrdy
          have hk0 : operR rec o tc (M p) = some (V i, M p') := hop
          have hkk : operK rec o tc (M p) (fun t' M' => some (.agg t'.toArray, M')) = some (.agg (setT tc o.dst (V i)).toArray, M p') := by
            rw [operK_na, hk0]; rfl
          have hbw : base ≤ w.heap.size := Nat.le_trans (Nat.le_trans hb hlo) hev.size
          have := operStep hrec hcomp hs' ht' hbw hkk ro n (wpAnyIn (FW ro) n P .any ops (Post P base lo K r A ι W) fuel (L.setIfInBounds i true)) (Post P base lo K r A ι W) (by
            intro t2 A2 ι2 W2 a2 k1 k2 k3 k4 k5
            have e2 : A2 = M p' := by cases k1; rfl
            have e1 : t2 = setT tc o.dst (V i) := by
              have h1 := congrArg (fun z => match z with | some (Value.agg x, _) => x.toList | _ => []) k1
              simpa using h1
            subst e2; subst e1
            have hset := fun j => Lst.set (L := L) hisz j
            refine ih _ a2 W2 _ p' ι2 (by simp [hsz]) (count_set' hnl hcnt) (fun j hj => ?_) hp' (hsl.step C.dist hio fun j => hset j) (fun j b hj hb => by rw [hset j]; exact heff' j b hj hb) k2 k3 (k4.trans hdf) (hev.trans k5)
            rcases (hset j).1 hj with hj | rfl
            · obtain ⟨ob, ho1, ho2⟩ := hcl j hj
              exact ⟨ob, ho1, fun e he hbd => (hset _).2 (.inl (ho2 e he hbd))⟩
            · exact ⟨oc, hoc, fun e he hbd => (hset _).2 (.inl (hrdy e he hbd))⟩)
          unfold wpOpIn
          rw [hoc]
          exact this
    refine main ops.size _ act _ t 0 ι (by simp) (by simp) (fun j hj => ?_) (Nat.zero_le _) ?_ (fun j o _ _ => ?_) ?_ ?_ rfl ?_
    · exfalso
      unfold Lst at hj
      by_cases hlt : j < ops.size <;> simp [Array.getD, hlt] at hj
    · refine ⟨rfl, fun j o d _ hj => ?_, fun d _ => rfl⟩
      exfalso
      unfold Lst at hj
      by_cases hlt : j < ops.size <;> simp [Array.getD, hlt] at hj
    · refine ⟨fun hj => ?_, fun hj => absurd hj (Nat.not_lt_zero _)⟩
      exfalso
      unfold Lst at hj
      by_cases hlt : j < ops.size <;> simp [Array.getD, hlt] at hj
    · rw [c2]; exact s0
    · rw [c2]; exact ht.mono ev0.le
    · rw [c2]; exact ev0
  · cases h2

end
end Go.Ax
