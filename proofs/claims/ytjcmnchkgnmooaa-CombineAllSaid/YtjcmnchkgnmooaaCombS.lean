/- The program's buffers: Stripes. -/
import Derived.Test.YtjcmnchkgnmooaaCombT
import Derived.Test.YtjcmnchkgnmooaaSortX
set_option linter.unusedVariables false
set_option linter.unusedSimpArgs false
namespace Go.Proofs.Ytjcmnchkgnmooaa
open Go Go.Ax

/-- Nothing is lost where repetitions go. -/
theorem compact_mem {zs : List Int} {x : Int} : x ∈ zs → x ∈ Lib.compact zs := by
  intro h
  obtain ⟨j, hj⟩ := List.getElem?_of_mem h
  have key : ∀ j : Nat, zs[j]? = some x → ∃ g, g < zs.length ∧ Lib.keeps zs.toArray g = true ∧ zs[g]? = some x := fun j => by
    induction j with
    | zero =>
      intro h0
      exact ⟨0, (List.getElem?_eq_some_iff.1 h0).1, by simp [Lib.keeps], h0⟩
    | succ j ih =>
      intro hj
      have hl := (List.getElem?_eq_some_iff.1 hj).1
      by_cases hk : Lib.keeps zs.toArray (j + 1) = true
      · exact ⟨j + 1, hl, hk, hj⟩
      · refine ih ?_
        have hk' : Lib.keeps zs.toArray (j + 1) = false := by simpa using hk
        unfold Lib.keeps at hk'
        simp only [Nat.add_eq_zero_iff, Nat.one_ne_zero, and_false, decide_false, Bool.false_or, Nat.add_sub_cancel] at hk'
        have e1 : zs.toArray[j + 1]! = x := by
          rw [getElem!_pos zs.toArray (j + 1) (by simpa using hl)]
          have := (List.getElem?_eq_some_iff.1 hj).2
          simpa using this
        have e2 : zs.toArray[j]! = zs[j]'(by omega) := by
          rw [getElem!_pos zs.toArray j (by simp; omega)]; simp
        rw [e1, e2] at hk'
        rw [List.getElem?_eq_getElem (by omega)]
        congr 1
        symm
        simpa using hk'
  obtain ⟨g, g1, g2, g3⟩ := key j hj
  unfold Lib.compact Lib.compactUpTo
  refine List.mem_map.2 ⟨g, List.mem_filter.2 ⟨List.mem_range.2 g1, g2⟩, ?_⟩
  rw [getElem!_pos zs.toArray g (by simpa using g1)]
  have := (List.getElem?_eq_some_iff.1 g3).2
  simpa using this

theorem wrL_app1 : ∀ (V A Z : List Value), V.length = Z.length → wrL (A ++ Z) A.length V = A ++ V
  | [], A, [], h => by simp [wrL]
  | [], A, z :: Z, h => by simp at h
  | v :: V, A, [], h => by simp at h
  | v :: V, A, z :: Z, h => by
    have := wrL_app1 V (A ++ [v]) Z (by simpa using h)
    simp only [wrL]
    rw [show (A ++ z :: Z).set A.length v = A ++ v :: Z by simp]
    simpa using this

theorem wrL_app0 (V Z : List Value) (h : V.length = Z.length) : wrL Z 0 V = V := by simpa using wrL_app1 V [] Z h

theorem intsOf_ints (k : IntKind) : ∀ l : List Int, intsOf k (ints k l) = some l
  | [] => rfl
  | x :: l => by
    have := intsOf_ints k l
    unfold ints at this ⊢
    simp only [List.map_cons, intsOf, if_true, this, Option.map_some]

theorem bT0 {β : Type} (f : List Value → Option β) : Option.bind (tupOf? 0 (.tuple #[])) f = f [] := rfl

def stp (s : Int) (es : List En) : List Int := es.map fun e => Int.tmod e.px s

theorem stripes_loop {M0 : AMem} {b mp : Nat} {q : Option Addr} {qc : Nat} {p s room : Int} {es : List En} (h : IsBuf M0 b mp q qc p s room es) :
    ∀ (d i : Nat) (M : AMem) (o : Option Addr) (oc : Nat), i + d = es.length → Slc M 1 o i oc (ints .i64 (stp s (es.take i))) → Same M0 M [] → (∀ z ∈ blk o, M0.length ≤ z) → (i = 0 → o = none ∧ oc = 0) →
    ∃ M' o' oc', P10_16 LL (some ⟨b, 0, none⟩) o i oc q es.length qc (es.length : Int) (i : Int) M = P10_29 LL o' es.length oc' M' ∧ Slc M' 1 o' es.length oc' (ints .i64 (stp s es)) ∧ Same M0 M' [] ∧ (∀ z ∈ blk o', M0.length ≤ z) ∧ (es.length = 0 → o' = none ∧ oc' = 0) := by
  have hrm := h.rm
  have hlt := h.lt
  intro d
  induction d with
  | zero =>
    intro i M o oc hi hs t ho h0
    obtain rfl : i = es.length := by omega
    rw [List.take_length] at hs
    rw [P10_16_eq LL L_loop, ifDn (by omega)]
    exact ⟨M, o, oc, rfl, hs, t, ho, h0⟩
  | succ d ih =>
    intro i M o oc hi hs t ho h0
    have hil : i < es.length := by omega
    obtain ⟨e, he⟩ : ∃ e, es[i]? = some e := ⟨_, List.getElem?_eq_getElem hil⟩
    have hem := List.mem_of_getElem? he
    have hpx := h.px e hem
    have ht : es.take (i + 1) = es.take i ++ [e] := by rw [List.take_add_one, he]; rfl
    have hg : (0 : Int) ≤ (i : Int) ∧ (i : Int) < Int.ofNat es.length := by rw [ofN]; omega
    have hw : IntKind.wrap .i64 ((i : Int) + 1) = ((i + 1 : Nat) : Int) := by rw [w64 (by omega)]; rfl
    have hM := h.same t (by simp)
    obtain ⟨z, rfl, hz⟩ := hM.sl.pos (by omega)
    obtain ⟨l0, l1, l2, l3⟩ := ent_ld hz.rd he
    have leM := t.le
    have s1 := same_app M [AObj.cells [.int .i64 0, .int .u64 0, .int .u64 0, .int .u64 0] ⟨false, 0⟩]
    have g1 := cells_new M [.int .i64 0, .int .u64 0, .int .u64 0, .int .u64 0] 0
    obtain ⟨M1, w1, w2, w3, w4⟩ := g1.wr (o := 0) (vs := encE e) (by simp [encE])
    have w2' : Cells M1 M.length (encE e) := by simpa [wrL, encE] using w2
    have hM1l : M1.length = M.length + 1 := by rw [w4]; simp
    have t1 : Same M M1 [] := (s1.trans w3).mono' (fun b hb hl => by simp at hb; omega)
    have v0 : M1.ld M.length 0 = some (.int .i64 e.px) := w2'.ld 0
    have hd1 := hM.hd.same t1 (by simp)
    have p0 : M1.ld b 0 = some (.int .i64 p) := hd1.ld 0
    have p1 : M1.ld b 1 = some (.int .i64 s) := hd1.ld 1
    obtain ⟨_, ks⟩ := stripe_spec p s e.px
    have e1 : (if Rt p s ∧ 0 ≤ e.px ∧ e.px < p then Int.tmod e.px s else -1) = Int.tmod e.px s := if_pos ⟨h.rt, hpx⟩
    rw [e1] at ks
    obtain ⟨M2, c1, c2, c3, c4⟩ := append_row (bytes := 8) (v := 0) (new := [.int .i64 (Int.tmod e.px s)]) (m := 1) (hs.same t1 (by simp)) rfl (by omega) (by omega)
    have hrow := rowOf_new M1 1 1 [.int .i64 (Int.tmod e.px s)] 0 1 rfl
    have t2 : Same M0 M2 [] := ((t.trans t1).trans c3).mono' fun x hx hl => by
      simp only [List.nil_append] at hx
      have := ho x hx; omega
    have hst : stp s (es.take (i + 1)) = stp s (es.take i) ++ [Int.tmod e.px s] := by rw [ht]; simp [stp]
    obtain ⟨M', o', oc', k1, k2, k3, k4, k5⟩ := ih (i + 1) M2 (some ⟨M1.length + 1, 0, none⟩) 1 (by omega) (by rw [hst]; simpa [ints] using c2) t2 (by simp; omega) (by omega)
    refine ⟨M', o', oc', ?_, k2, k3, k4, k5⟩
    unfold encE at w1
    rw [P10_16_eq LL L_loop, ifD (by omega)]
    simp only [↓if_pos hg, Nat.zero_add, Int.toNat_natCast]
    rw [bLI l0, bLI l1, bLI l2, bLI l3, bX w1, bLI p0, bLI p1, bLI v0, bX ks, bI, bX hrow, c1, P10_28_eq, hw]
    exact k1

theorem stripes_spec {M : AMem} {b mp : Nat} {q : Option Addr} {qc : Nat} {p s room : Int} {es : List En} (h : IsBuf M b mp q qc p s room es) :
    ∃ M' o oc ks, LL.call 10 [bp b] M = some (.slice o ks.length oc, M') ∧ Same M M' [] ∧ (∀ z ∈ blk o, M.length ≤ z) ∧ (∀ e ∈ es, Int.tmod e.px s ∈ ks) ∧ ks.length ≤ es.length ∧ (0 < ks.length → ∃ a cs, o = some ⟨a, 0, none⟩ ∧ Rd M' a cs ∧ ∀ i, i < ks.length → cs[i]? = (ints .i64 ks)[i]?) := by
  rw [L_call10, E10, bX (bgiven h), bB, ifNT]
  have l4 : M.ld b 4 = some (.slice q es.length qc) := h.hd.ld 4
  have hrm := h.rm
  simp only [Nat.zero_add]
  rw [bLS l4]
  obtain ⟨M1, o, oc, e, k1, k2, k3, k4⟩ := stripes_loop h es.length 0 M none 0 (by omega) (by simpa [stp, ints] using Slc.nil M 1 0) (.refl _ _) (by simp) (fun _ => ⟨rfl, rfl⟩)
  have e' : P10_16 LL (some ⟨b, 0, none⟩) none 0 0 q es.length qc (Int.ofNat es.length) 0 M = _ := e
  simp only
  rw [e', P10_29_eq, L_call16]
  by_cases h0 : es.length = 0
  · obtain ⟨rfl, rfl⟩ := k4 h0
    rw [h0]
    have es0 : es = [] := List.eq_nil_of_length_eq_zero h0
    have e1 : sortH [.slice none 0 0] M1 = some (.tuple #[], M1) := rfl
    have e2 : compactH [.slice none 0 0] M1 = some (.slice none 0 0, M1) := rfl
    rw [bX e1, bT0]
    rw [L_call17, bX e2, bS]
    exact ⟨M1, none, 0, [], rfl, k2, by simp, by simp [es0], by simp, by simp⟩
  · obtain ⟨a, rfl, hz⟩ := k1.pos (by omega)
    have hsl : (stp s es).length = es.length := by simp [stp]
    have hoc : oc = 1 := by
      rcases k1.2 with ⟨e1, _⟩ | ⟨a, _, e2, _⟩
      · cases e1
      · exact e2
    have hrd : M1.rd a 0 es.length = some (ints .i64 (stp s es)) := by
      rw [hz.rd' (by simp [stp]), List.drop_zero, List.take_of_length_le (by simp [stp])]
    have hil : (isort (stp s es)).length = es.length := by rw [(isort_perm _).length_eq, hsl]
    obtain ⟨M2, w1, w2, w3, w4⟩ := hz.wr (o := 0) (vs := (isort (stp s es)).map (Value.int .i64)) (by simp [hil, hsl])
    have w2' : Cells M2 a (ints .i64 (isort (stp s es))) := by
      have := wrL_app0 ((isort (stp s es)).map (Value.int .i64)) (ints .i64 (stp s es)) (by simp [hil, hsl])
      rw [this] at w2
      exact w2
    have e1 : sortH [.slice (some ⟨a, 0, none⟩) es.length oc] M1 = some (.tuple #[], M2) := by
      unfold sortH
      simp only
      rw [if_neg (by omega), hrd, Option.bind_some, intsOf_ints, Option.bind_some, w1]
      rfl
    have hrd2 : M2.rd a 0 es.length = some (ints .i64 (isort (stp s es))) := by
      rw [w2'.rd' (by simp [hil]), List.drop_zero, List.take_of_length_le (by simp [hil])]
    have hcl := compact_len (isort (stp s es))
    obtain ⟨M3, x1, x2, x3, x4⟩ := w2'.wr (o := 0) (vs := (Lib.compact (isort (stp s es)) ++ List.replicate ((isort (stp s es)).length - (Lib.compact (isort (stp s es))).length) 0).map (Value.int .i64)) (by simp; omega)
    have x2' : Cells M3 a (ints .i64 (Lib.compact (isort (stp s es)) ++ List.replicate ((isort (stp s es)).length - (Lib.compact (isort (stp s es))).length) 0)) := by
      have := wrL_app0 ((Lib.compact (isort (stp s es)) ++ List.replicate ((isort (stp s es)).length - (Lib.compact (isort (stp s es))).length) 0).map (Value.int .i64)) (ints .i64 (isort (stp s es))) (by simp; omega)
      rw [this] at x2
      exact x2
    have e2 : compactH [.slice (some ⟨a, 0, none⟩) es.length oc] M2 = some (.slice (some ⟨a, 0, none⟩) (Lib.compact (isort (stp s es))).length oc, M3) := by
      unfold compactH
      simp only
      rw [if_neg (by omega), hrd2, Option.bind_some, intsOf_ints, Option.bind_some, x1]
      rfl
    rw [bX e1, bT0]
    rw [L_call17, bX e2, bS]
    refine ⟨M3, some ⟨a, 0, none⟩, oc, Lib.compact (isort (stp s es)), rfl, ((k2.trans w3).trans x3).mono' (fun x hx hl => ?_), by simpa using k3, fun e he => ?_, by omega, fun _ => ⟨a, _, rfl, x2'.rd, fun i hi => ?_⟩⟩
    · simp at hx
      have := k3 a (by simp); omega
    · exact compact_mem ((isort_perm _).mem_iff.2 (List.mem_map_of_mem (f := fun e : En => Int.tmod e.px s) he))
    · unfold ints
      rw [List.map_append, List.getElem?_append_left (by simpa using hi)]

end Go.Proofs.Ytjcmnchkgnmooaa
