/- BatchOnce: the loops. -/
import Derived.Test.YtjmeilpffmhojaaOnceL
set_option linter.unusedVariables false
set_option linter.unusedSimpArgs false
namespace Go.Proofs.Ytjmeilpffmhojaa
open Go Go.Ax

structure OInv (k by_ N0 : Nat) (M : AMem) (mb ma hb a : Nat) (qs : List Nat) (ss : List CS) (cur wins T : Nat) : Prop where
  mem : ∃ st wi, IsMem M mb ma [(cur : Int)] st wi ∧ st ≤ T + 9 ∧ wi ≤ T + 9
  had : Cells M hb (ints .i64 (hadL cur))
  pa : Cells M a (qs.map pt)
  len : ss.length = qs.length
  el : ∀ (i : Nat) (q : Nat) (s : CS), qs[i]? = some q → ss[i]? = some s → Cells M q (encC k by_ s) ∧ OOk k cur T s
  win : OWin k by_ cur wins
  le : cur ≤ k
  nd : (mb :: ma :: hb :: a :: qs).Nodup
  ge : ∀ x ∈ (mb :: ma :: hb :: a :: qs), N0 ≤ x
  le0 : N0 ≤ M.length

theorem nodup_set : ∀ {l : List Nat} {i x : Nat}, l.Nodup → x ∉ l → (l.set i x).Nodup
  | [], i, x, _, _ => by simp
  | y :: l, 0, x, h, hx => by
    rw [List.set_cons_zero, List.nodup_cons]
    exact ⟨fun hm => hx (by simp [hm]), (List.nodup_cons.1 h).2⟩
  | y :: l, i + 1, x, h, hx => by
    rw [List.set_cons_succ, List.nodup_cons]
    obtain ⟨h1, h2⟩ := List.nodup_cons.1 h
    refine ⟨fun hm => ?_, nodup_set h2 fun hm => hx (by simp [hm])⟩
    rcases List.mem_or_eq_of_mem_set hm with hm | hm
    · exact h1 hm
    · exact hx (by simp [hm])

theorem nodup_idx {l : List Nat} (h : l.Nodup) {i j x : Nat} (hi : l[i]? = some x) (hj : l[j]? = some x) : i = j := by
  obtain ⟨i1, i2⟩ := List.getElem?_eq_some_iff.1 hi
  obtain ⟨j1, j2⟩ := List.getElem?_eq_some_iff.1 hj
  rcases Nat.lt_trichotomy i j with hl | hl | hl
  · exact absurd (i2.trans j2.symm) (List.pairwise_iff_getElem.1 h i j i1 j1 hl)
  · exact hl
  · exact absurd (j2.trans i2.symm) (List.pairwise_iff_getElem.1 h j i j1 i1 hl)

/-- What is had is counted. -/
theorem had_loop {k by_ : Nat} (hk : k ≤ 60) {hb : Nat} {o : Option Addr} {on oc : Nat} {mb n : Int} {pm : Option Addr} {wins : Int} {pa : Option Addr} {pn pc : Nat} {i w : Int} {to : Nat} (hto : to ≤ k) :
    ∀ (d c : Nat) (M : AMem), c + d = to → Cells M hb (ints .i64 (hadL c)) →
      ∃ M', P4_92 LL o on oc k by_ n pm hb wins pa pn pc i w to c M = P4_103 LL o on oc k by_ n pm hb wins pa pn pc i w M' ∧ Cells M' hb (ints .i64 (hadL to)) ∧ Same M M' [hb] := by
  intro d
  induction d with
  | zero =>
    intro c M hc h
    obtain rfl : c = to := by omega
    rw [P4_92_eq LL L_loop]
    simp only [Int.lt_irrefl, decide_false, Bool.false_eq_true, if_false]
    exact ⟨M, rfl, h, .refl _ _⟩
  | succ d ih =>
    intro c M hc h
    have hlt : (c : Int) < (to : Int) := by omega
    have h0 : (0 : Int) ≤ (c : Int) ∧ (c : Int) < 61 := by omega
    have hld : M.ld hb c = some (.int .i64 0) := by
      rw [h.ld, ints_get, hadL_get _ _ (by omega)]; simp
    obtain ⟨M1, w1, w2, w3, _⟩ := h.wr (o := c) (vs := [.int .i64 1]) (by simp [hadL]; omega)
    rw [wrL_ints, hadL_set _ (by omega)] at w2
    obtain ⟨M', e1, e2, e3⟩ := ih (c + 1) M1 (by omega) w2
    have hw : IntKind.wrap .i64 ((0 : Int) + 1) = 1 := by decide
    have hw2 : IntKind.wrap .i64 ((c : Int) + 1) = ((c + 1 : Nat) : Int) := by rw [w64 (by omega)]; rfl
    refine ⟨M', ?_, e2, (w3.trans e3).mono (by simp)⟩
    rw [P4_92_eq LL L_loop]
    simp only [hlt, decide_true, if_true, h0, and_self, Nat.zero_add, Nat.mul_one, Int.toNat_natCast, hld, intOf_int, Option.bind_some, hw, w1, P4_102_eq, hw2]
    exact e1

theorem pt_map {qs : List Nat} {i q : Nat} (h : qs[i]? = some q) : (qs.map pt)[i]? = some (pt q) := by simp [h]

/-- One owner's turn. -/
theorem once_body {k by_ N0 : Nat} (hk : k ≤ 60) (hb1 : 1 ≤ by_) (hb2 : by_ ≤ 20) {M : AMem} {mb ma hb a : Nat} {qs : List Nat} {ss : List CS} {cur wins T : Nat} (h : OInv k by_ N0 M mb ma hb a qs ss cur wins T) (hT : T < 100000) (hw : wins ≤ T) {w : Nat} (hwq : w < qs.length)
    {o : Option Addr} {on oc : Nat} {n i : Int} :
    ∃ (M' : AMem) (qs' : List Nat) (s s' : CS) (cur' wins' : Nat), P4_56 LL o on oc k by_ n (some ⟨mb, 0, none⟩) hb wins (some ⟨a, 0, none⟩) qs.length 1 i w M =
        P4_104 LL o on oc k by_ n (some ⟨mb, 0, none⟩) hb wins' (some ⟨a, 0, none⟩) qs.length 1 i M' ∧
      ss[w]? = some s ∧ (s', cur') = onx k by_ cur s ∧ OInv k by_ N0 M' mb ma hb a qs' (ss.set w s') cur' wins' (T + 1) ∧ qs'.length = qs.length ∧ wins' ≤ T + 1 ∧ (∀ x, x < N0 → M'[x]? = M[x]?) := by
  have hw2 : w < ss.length := by rw [h.len]; exact hwq
  obtain ⟨q, hq⟩ : ∃ q, qs[w]? = some q := ⟨_, List.getElem?_eq_getElem hwq⟩
  obtain ⟨s, hs⟩ : ∃ s, ss[w]? = some s := ⟨_, List.getElem?_eq_getElem hw2⟩
  obtain ⟨e1, e2⟩ := h.el w q s hq hs
  obtain ⟨st, wi, m1, m2, m3⟩ := h.mem
  have hqm : q ∈ qs := List.mem_of_getElem? hq
  have nd := h.nd
  simp only [List.nodup_cons, List.mem_cons, not_or] at nd
  obtain ⟨⟨d1, d2, d3, d4⟩, ⟨d5, d6, d7⟩, ⟨d8, d9⟩, d10, d11⟩ := nd
  have qmb : q ≠ mb := fun e => d4 (e ▸ hqm)
  have qma : q ≠ ma := fun e => d7 (e ▸ hqm)
  have qhb : q ≠ hb := fun e => d9 (e ▸ hqm)
  have qa : q ≠ a := fun e => d10 (e ▸ hqm)
  have w0 : (0 : Int) ≤ (w : Int) := by omega
  have w1 : (w : Int) < Int.ofNat qs.length := by rw [ofN]; omega
  have hld : M.ld a w = some (pt q) := by rw [h.pa.ld, pt_map hq]
  have hf : CFit (k : Int) (by_ : Int) := ⟨by omega, by omega, by omega, by omega⟩
  have hok := onx_ok (by_ := by_) e2 hb1 h.le
  rw [P4_56_eq]
  simp only [w0, w1, and_self, if_true, Nat.zero_add, Nat.mul_one, Int.toNat_natCast, hld, ptrOf_ptr, Option.bind_some, done_spec e1, boolOf_bool]
  have others : ∀ (c' : Nat) (s2 : CS), cur ≤ c' → OOk k cur T s2 → OOk k c' (T + 1) s2 := fun c' s2 hc ho => ⟨ho.seen, by have := ho.lost; omega, ho.z, fun e => by have := ho.over e; omega⟩
  by_cases c1 : 1 < s.ph
  · have ho : onx k by_ cur s = (s, cur) := by unfold onx; rw [if_pos c1]
    simp only [c1, decide_true, if_true]
    rw [ho] at hok
    refine ⟨M, qs, s, s, cur, wins, rfl, hs, ho.symm, ⟨⟨st, wi, m1, by omega, by omega⟩, h.had, h.pa, by simp [h.len], fun i q' s' h1 h2 => ?_, h.win, h.le, h.nd, h.ge, h.le0⟩, rfl, by omega, fun _ _ => rfl⟩
    have hset : ss.set w s = ss := by
      refine List.ext_getElem? fun j => ?_
      by_cases e : j = w
      · subst e; rw [List.getElem?_set_self hw2, hs]
      · rw [List.getElem?_set_ne (Ne.symm e)]
    rw [hset] at h2
    obtain ⟨x1, x2⟩ := h.el i q' s' h1 h2
    exact ⟨x1, others _ _ (Nat.le_refl _) x2⟩
  · obtain ⟨M1, st', wi', g1, g2, g3, g4, g5, g6⟩ := bstep_spec hf (s := s) ⟨fun e => e2.seen e, by have := e2.lost; omega⟩ e1 m1 (by omega) (by omega) qmb qma (by omega)
    have a1 := h.pa.same g6 (by simp; exact ⟨Ne.symm qa, Ne.symm d3, Ne.symm d6⟩)
    have hd1 := h.had.same g6 (by simp; exact ⟨Ne.symm qhb, Ne.symm d2, Ne.symm d5⟩)
    have hld1 : M1.ld a w = some (pt q) := by rw [a1.ld, pt_map hq]
    have hph : s.ph < 2 := by omega
    simp only [c1, decide_false, Bool.false_eq_true, if_false, g1, hph, decide_true, Bool.not_true, Option.bind_some, boolOf_bool, hld1, ptrOf_ptr, range_spec g2]
    have hold : ∀ x, x < N0 → M1[x]? = M[x]? := fun x hx => g6.get x (by have := h.le0; omega) (by
      have h1 := h.ge mb (by simp)
      have h2 := h.ge ma (by simp)
      have h3 := h.ge q (by simp [hqm])
      simp; omega)
    have rest : ∀ (i : Nat) (q' : Nat) (s' : CS), i ≠ w → qs[i]? = some q' → ss[i]? = some s' → Cells M1 q' (encC k by_ s') := fun i q' s' hi h1 h2 => by
      obtain ⟨x1, x2⟩ := h.el i q' s' h1 h2
      have hm := List.mem_of_getElem? h1
      refine x1.same g6 ?_
      simp only [List.mem_cons, not_or, List.not_mem_nil, or_false]
      refine ⟨fun e => ?_, fun e => d4 (e ▸ hm), fun e => d7 (e ▸ hm)⟩
      subst e
      exact hi (nodup_idx d11 h1 hq)
    have setEl : ∀ (M2 : AMem) (s1 : CS) (c' : Nat), cur ≤ c' → Cells M2 q (encC k by_ s1) → OOk k c' (T + 1) s1 → Same M1 M2 [] → ∀ (i : Nat) (q' : Nat) (s' : CS), qs[i]? = some q' → (ss.set w s1)[i]? = some s' → Cells M2 q' (encC k by_ s') ∧ OOk k c' (T + 1) s' := fun M2 s1 c' hc hq1 ho hS i q' s' h1 h2 => by
      by_cases e : i = w
      · subst e
        rw [hq] at h1; cases h1
        rw [List.getElem?_set_self hw2] at h2; cases h2
        exact ⟨hq1, ho⟩
      · rw [List.getElem?_set_ne (Ne.symm e)] at h2
        exact ⟨(rest i q' s' e h1 h2).same hS (by simp), others _ _ hc (h.el i q' s' h1 h2).2⟩
    have l6 := g6.le
    have z := e2.z
    by_cases c0 : s.ph = 0
    · have ho : onx k by_ cur s = ({ s with seen := cur, ph := if k ≤ cur then 2 else 1 }, cur) := by unfold onx; rw [if_neg c1, if_pos c0]
      have hs1 : stepS (k : Int) by_ cur s = ({ s with seen := (cur : Int), ph := if k ≤ cur then 2 else 1 }, (cur : Int)) := by
        unfold stepS; rw [if_pos c0]
        by_cases cc : k ≤ cur
        · simp [cc, show (cur : Int) ≥ (k : Int) by omega]
        · simp [cc, show ¬ (k : Int) ≤ (cur : Int) by omega]
      rw [ho] at hok
      rw [hs1] at g2 g3 ⊢
      have hr : (if 1 < (if k ≤ cur then 2 else 1) then Value.tuple #[.int .i64 s.fr, .int .i64 s.to, .bool (decide (s.fr < s.to))] else .tuple #[.int .i64 0, .int .i64 0, .bool false]) = .tuple #[.int .i64 0, .int .i64 0, .bool false] := by
        rw [z.1, z.2]; split <;> rfl
      simp only [hr, tup3, Option.bind_some, get0, get1, get2, intOf_int, boolOf_bool, Bool.not_false, if_true]
      exact ⟨M1, qs, s, _, cur, wins, rfl, hs, ho.symm, ⟨⟨st', wi', g3, by omega, by omega⟩, hd1, a1, by simp [h.len], setEl M1 _ cur (Nat.le_refl _) g2 hok.1 (.refl _ _), h.win, h.le, h.nd, h.ge, by have := h.le0; omega⟩, rfl, by omega, hold⟩
    · have cp : s.ph = 1 := by omega
      have hse := e2.seen cp
      by_cases e : s.seen = cur
      · have ho : onx k by_ cur s = (.init, min k (cur + by_)) := by unfold onx; rw [if_neg c1, if_neg c0, if_pos e]
        have hcm : (s.seen + min (by_ : Int) ((k : Int) - s.seen)) = ((min k (cur + by_) : Nat) : Int) := by omega
        have hs1 : stepS (k : Int) by_ cur s = ({ s with ph := 2, fr := (cur : Int), to := ((min k (cur + by_) : Nat) : Int) }, ((min k (cur + by_) : Nat) : Int)) := by
          unfold stepS; rw [if_neg c0, if_pos cp, if_pos e.symm, hcm, e]
        rw [ho] at hok
        rw [hs1] at g2 g3 ⊢
        have hlt : (cur : Int) < ((min k (cur + by_) : Nat) : Int) := by omega
        have i1 : ¬ (cur : Int) < 0 := by omega
        have i2 : ¬ ((min k (cur + by_) : Nat) : Int) > (k : Int) := by omega
        have i3 : IntKind.wrap .i64 (((min k (cur + by_) : Nat) : Int) - (cur : Int)) = ((min k (cur + by_) : Nat) : Int) - (cur : Int) := w64 (by omega)
        have i4 : ¬ ((min k (cur + by_) : Nat) : Int) - (cur : Int) > (by_ : Int) := by omega
        have i5 : IntKind.wrap .i64 ((wins : Int) + 1) = ((wins + 1 : Nat) : Int) := by rw [w64 (by omega)]; rfl
        obtain ⟨M2, h1, h2, h3⟩ := had_loop (by_ := by_) hk (o := o) (on := on) (oc := oc) (mb := 0) (n := n) (pm := some ⟨mb, 0, none⟩) (wins := ((wins + 1 : Nat) : Int)) (pa := some ⟨a, 0, none⟩) (pn := qs.length) (pc := 1) (i := i) (w := (w : Int)) (to := min k (cur + by_)) (by omega) (min k (cur + by_) - cur) cur M1 (by omega) hd1
        obtain ⟨M3, n1, n2, n3, n4⟩ := bnew_spec hf M2
        have a3 := (a1.same h3 (by simp; exact Ne.symm d8)).same n3 (by simp)
        obtain ⟨M4, x1, x2, x3, x4⟩ := a3.wr (o := w) (vs := [pt M2.length]) (by simp; omega)
        have lt2 := h3.le
        have lt4 := x3.le
        simp only [show (1 : Nat) < 2 by omega, if_true, hlt, decide_true, tup3, Option.bind_some, get0, get1, get2, intOf_int, boolOf_bool, Bool.not_true, Bool.false_eq_true, if_false, i1, i2, i3, i4, i5, decide_false, P4_83_eq, h1, P4_103_eq,
          n1, ptrOf_ptr, w0, w1, and_self, Nat.zero_add, Nat.mul_one, Int.toNat_natCast, x1]
        have hqlt : ∀ x ∈ qs, x < M2.length := fun x hx => by
          obtain ⟨j, hj⟩ := List.getElem?_of_mem hx
          obtain ⟨s', hs'⟩ : ∃ s', ss[j]? = some s' := ⟨_, List.getElem?_eq_getElem (by rw [h.len]; exact (List.getElem?_eq_some_iff.1 hj).1)⟩
          have := (h.el j x s' hj hs').1.lt
          omega
        have hM : Same M1 M4 [hb, a] := ((h3.trans n3).trans x3).mono (by simp)
        have hnew : M2.length ∉ mb :: ma :: hb :: a :: qs := by
          have j1 := m1.hd.lt; have j2 := m1.cs.lt; have j3 := h.had.lt; have j4 := h.pa.lt
          simp only [List.mem_cons, not_or]
          exact ⟨by omega, by omega, by omega, by omega, fun hx => by have := hqlt _ hx; omega⟩
        refine ⟨M4, qs.set w M2.length, s, .init, min k (cur + by_), wins + 1, by simp, hs, ho.symm, ⟨⟨st', wi', g3.same hM (by simp; exact ⟨d2, d3⟩) (by simp; exact ⟨d5, d6⟩), by omega, by omega⟩, ?_, ?_, by simp [h.len], ?_, h.win.next (by omega), by omega, ?_, ?_, by have := h.le0; have := n3.le; omega⟩, by simp, by omega, ?_⟩
        · exact (h2.same n3 (by simp)).same x3 (by simp; exact d8)
        · rw [List.map_set]; simpa [wrL] using x2
        · intro j q' s' hj hs'
          by_cases ej : j = w
          · subst ej
            rw [List.getElem?_set_self hwq] at hj; cases hj
            rw [List.getElem?_set_self hw2] at hs'; cases hs'
            refine ⟨n2.same x3 ?_, hok.1⟩
            have j4 := h.pa.lt
            simp; omega
          · rw [List.getElem?_set_ne (Ne.symm ej)] at hj hs'
            refine ⟨(rest j q' s' ej hj hs').same hM ?_, others _ _ (by omega) (h.el j q' s' hj hs').2⟩
            have := List.mem_of_getElem? hj
            simp only [List.mem_cons, not_or, List.not_mem_nil, or_false]
            exact ⟨fun e => d9 (e ▸ this), fun e => d10 (e ▸ this)⟩
        · have hnd := h.nd
          simp only [List.nodup_cons, List.mem_cons, not_or] at hnew
          obtain ⟨y1, y2, y3, y4, y5⟩ := hnew
          have hset : ∀ x, x ∉ qs → x ≠ M2.length → x ∉ qs.set w M2.length := fun x hx hne hm => by
            rcases List.mem_or_eq_of_mem_set hm with hm | hm
            · exact hx hm
            · exact hne hm
          simp only [List.nodup_cons, List.mem_cons, not_or]
          exact ⟨⟨d1, d2, d3, hset _ d4 (Ne.symm y1)⟩, ⟨d5, d6, hset _ d7 (Ne.symm y2)⟩, ⟨d8, hset _ d9 (Ne.symm y3)⟩, hset _ d10 (Ne.symm y4), nodup_set d11 y5⟩
        · intro x hx
          simp only [List.mem_cons] at hx
          rcases hx with rfl | rfl | rfl | rfl | hx
          · exact h.ge _ (by simp)
          · exact h.ge _ (by simp)
          · exact h.ge _ (by simp)
          · exact h.ge _ (by simp)
          · rcases List.mem_or_eq_of_mem_set hx with hx | rfl
            · exact h.ge _ (by simp [hx])
            · have := h.le0; omega
        · intro x hx
          rw [hM.get x (by have := h.le0; omega) (by have := h.ge hb (by simp); have := h.ge a (by simp); simp; omega)]
          exact hold x hx
      · have ho : onx k by_ cur s = ({ s with ph := 0, lost := s.lost + 1 }, cur) := by unfold onx; rw [if_neg c1, if_neg c0, if_neg e]
        have hs1 : stepS (k : Int) by_ cur s = ({ s with ph := 0, lost := s.lost + 1 }, (cur : Int)) := by
          unfold stepS; rw [if_neg c0, if_pos cp, if_neg (Ne.symm e)]
        rw [ho] at hok
        rw [hs1] at g2 g3 ⊢
        simp only [show ¬ (1 < 0) by omega, if_false, tup3, Option.bind_some, get0, get1, get2, intOf_int, boolOf_bool, Bool.not_false, if_true]
        exact ⟨M1, qs, s, _, cur, wins, rfl, hs, ho.symm, ⟨⟨st', wi', g3, by omega, by omega⟩, hd1, a1, by simp [h.len], setEl M1 _ cur (Nat.le_refl _) g2 hok.1 (.refl _ _), h.win, h.le, h.nd, h.ge, by have := h.le0; omega⟩, rfl, by omega, hold⟩

end Go.Proofs.Ytjmeilpffmhojaa
