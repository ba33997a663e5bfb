/- A look that is alone. -/
import Derived.Test.YtpnknolehckfhaaPeekN
import Derived.Test.YtpnknolehckfhaaFilmP
import Derived.Test.YtpnknolehckfhaaEqPStill
set_option linter.unusedVariables false
set_option linter.unusedSimpArgs false
namespace Go.Proofs.Ytpnknolehckfhaa
open Go Go.Ax

/-- What a pass reads of a memory that nobody changes. -/
def rdL (L : List Int) (p s : Nat) : List Int := (List.range (2 * s + 3 * p)).map fun k => getI L (pkRd p s k : Nat)

theorem rdL_length (L : List Int) (p s : Nat) : (rdL L p s).length = 2 * s + 3 * p := by simp [rdL]
theorem rdL_get (L : List Int) (p s k : Nat) (h : k < 2 * s + 3 * p) : (rdL L p s)[k]? = some (getI L (pkRd p s k : Nat)) := by simp [rdL, List.getElem?_range h]

theorem set_take {A B : List Int} {i : Nat} {v : Int} (h : A.take i = B.take i) (hA : i < A.length) (hB : B[i]? = some v) : (A.set i v).take (i + 1) = B.take (i + 1) := by
  rw [List.take_add_one, List.take_add_one, hB, List.take_set_of_le (Nat.le_refl i), h, List.getElem?_set_self hA]

theorem getI_nat {L : List Int} {i : Nat} (h : i < L.length) : getI L (i : Int) = L.getD i 0 := by
  unfold getI
  rw [if_pos ⟨by omega, by omega⟩, Int.toNat_natCast]

theorem rdL_eq {L : List Int} {p s : Nat} (hL : L.length = 1 + 2 * s + 3 * p) : (rdL L p s).take s = (rdL L p s).drop (s + 3 * p) ↔ ∀ t, t < s → L.getD (1 + t) 0 = L.getD (1 + s + t) 0 := by
  have h1 : ∀ t, t < s → ((rdL L p s).take s)[t]? = some (L.getD (1 + s + t) 0) := fun t ht => by
    rw [List.getElem?_take_of_lt ht, rdL_get _ _ _ _ (by omega)]
    have : pkRd p s t = 1 + s + t := by unfold pkRd; rw [if_pos ht]
    rw [this, getI_nat (by omega)]
  have h2 : ∀ t, t < s → ((rdL L p s).drop (s + 3 * p))[t]? = some (L.getD (1 + t) 0) := fun t ht => by
    rw [List.getElem?_drop, rdL_get _ _ _ _ (by omega)]
    have : pkRd p s (s + 3 * p + t) = 1 + t := by unfold pkRd; rw [if_neg (by omega), if_neg (by omega)]; omega
    rw [this, getI_nat (by omega)]
  constructor
  · intro h t ht
    have := congrArg (fun l : List Int => l[t]?) h
    simp only [h1 t ht, h2 t ht, Option.some.injEq] at this
    exact this.symm
  · intro h
    refine List.ext_getElem? fun t => ?_
    by_cases ht : t < s
    · rw [h1 t ht, h2 t ht, h t ht]
    · rw [List.getElem?_eq_none (by simp [rdL_length]; omega), List.getElem?_eq_none (by simp [rdL_length]; omega)]

theorem rdL_film {L : List Int} {p s : Nat} (hL : L.length = 1 + 2 * s + 3 * p) : ((rdL L p s).drop s).take (3 * p) = chans L p s := by
  refine List.ext_getElem? fun t => ?_
  unfold chans
  by_cases ht : t < 3 * p
  · rw [List.getElem?_take_of_lt ht, List.getElem?_take_of_lt ht, List.getElem?_drop, List.getElem?_drop, rdL_get _ _ _ _ (by omega)]
    have : pkRd p s (s + t) = 1 + 2 * s + t := by unfold pkRd; rw [if_neg (by omega), if_pos (by omega)]; omega
    rw [this, getI_nat (by omega), List.getD_eq_getElem?_getD, List.getElem?_eq_getElem (by omega)]
    rfl
  · rw [List.getElem?_eq_none (by simp; omega), List.getElem?_eq_none (by simp; omega)]

/-- A look on its way through a pass, alone. -/
structure Al (L : List Int) (M : AMem) (b be bb bf mb ma : Nat) (x : PK) (st wi : Nat) : Prop where
  pk : IsPk M b be bb bf x
  mm : IsMem M mb ma L st wi
  ov : x.over = false
  en : x.en = 0
  rd : x.arr.take x.i = (rdL L x.p x.s).take x.i

theorem al_step {L : List Int} {M : AMem} {b be bb bf mb ma : Nat} {x : PK} {st wi : Nat} (h : Al L M b be bb bf mb ma x st wi) (hL : L.length = 1 + 2 * x.s + 3 * x.p) (hst : st < 1000000) (hd : ∀ z ∈ [b, be, bb, bf], z ≠ mb ∧ z ≠ ma) :
    ∃ M', LL.call 17 [pt b, pt mb] M = some (.bool true, M') ∧ IsPk M' b be bb bf (pkS L x) ∧ IsMem M' mb ma L (st + 1) wi ∧ Same M M' [b, be, bb, bf, mb] ∧ (pkArr L x).take (x.i + 1) = (rdL L x.p x.s).take (x.i + 1) ∧ pkOver L x = false := by
  have ho : pkOver L x = false := by unfold pkOver; rw [h.ov, decide_eq_false (by omega)]; rfl
  obtain ⟨M', k1, k2, k3, k4⟩ := pk_step h.pk h.mm (by omega) hd
  have hT : pkT L x = 1 := by unfold pkT; rw [ho]; rfl
  rw [hT] at k3
  rw [ho] at k1
  have hi := h.pk.ix h.ov
  have hlen := h.pk.len
  refine ⟨M', k1, k2, k3, k4, ?_, ho⟩
  unfold pkArr
  exact set_take h.rd (by omega) (rdL_get _ _ _ _ (by unfold PK.all at hi; omega))

/-- A pass, up to its last step. -/
theorem al_pass {L : List Int} {b be bb bf mb ma x4 : Nat} {u : Bool} {x15 : Int} (hd : ∀ z ∈ [b, be, bb, bf], z ≠ mb ∧ z ≠ ma) :
    ∀ (d : Nat) (M : AMem) (x : PK) (st wi n : Nat), Al L M b be bb bf mb ma x st wi → L.length = 1 + 2 * x.s + 3 * x.p → x.i + d + 1 = x.all → st + d ≤ 200000 → n + d < 2000 →
    ∃ M' x', P5_62 LL x4 (some ⟨mb, 0, none⟩) u x15 (some ⟨b, 0, none⟩) n M = P5_62 LL x4 (some ⟨mb, 0, none⟩) u x15 (some ⟨b, 0, none⟩) ((n + d : Nat) : Int) M' ∧
      Al L M' b be bb bf mb ma x' (st + d) wi ∧ x'.p = x.p ∧ x'.s = x.s ∧ x'.tries = x.tries ∧ x'.most = x.most ∧ x'.i + 1 = x'.all ∧ Same M M' [b, be, bb, bf, mb] := by
  intro d
  induction d with
  | zero =>
    intro M x st wi n h hL hi hst hn
    exact ⟨M, x, rfl, h, rfl, rfl, rfl, rfl, by omega, .refl _ _⟩
  | succ d ih =>
    intro M x st wi n h hL hi hst hn
    obtain ⟨M1, k1, k2, k3, k4, k5, k6⟩ := al_step h hL (by omega) hd
    have hw : IntKind.wrap .i64 ((n : Int) + 1) = ((n + 1 : Nat) : Int) := by rw [w64 (by omega)]; rfl
    have hS : pkS L x = { x with arr := pkArr L x, i := x.i + 1 } := by unfold pkS; rw [if_neg (by simp [k6]), if_pos (by omega)]
    rw [hS] at k2
    obtain ⟨M', x', e, c1, c2, c3, c4, c5, c6, c7⟩ := ih M1 _ (st + 1) wi (n + 1) ⟨k2, k3, h.ov, h.en, k5⟩ hL (by show x.i + 1 + d + 1 = x.all; omega) (by omega) (by omega)
    refine ⟨M', x', ?_, ?_, c2, c3, c4, c5, c6, (k4.trans c7).mono (by simp)⟩
    · rw [P5_62_eq LL L_loop, ifD (by omega), bX k1, bB, ifT, hw, e]
      congr 1
      omega
    · rw [show st + (d + 1) = st + 1 + d by omega]; exact c1

/-- All its passes. -/
theorem al_all {L : List Int} {b be bb bf mb ma x4 : Nat} {u : Bool} {x15 : Int} (hd : ∀ z ∈ [b, be, bb, bf], z ≠ mb ∧ z ≠ ma) {p s all : Nat} (hL : L.length = 1 + 2 * s + 3 * p) (hall : all = 2 * s + 3 * p) (hR : Rt p s) (eq : Bool) (heq : eq = decide (∀ t, t < s → L.getD (1 + t) 0 = L.getD (1 + s + t) 0)) :
    ∀ (m : Nat) (M : AMem) (x : PK) (st wi n : Nat), Al L M b be bb bf mb ma x st wi → x.p = p → x.s = s → x.i = 0 → x.tries + m + 1 = x.most → (eq = true → x.tries = 0) → st + (m + 1) * all ≤ 200000 → n + (m + 1) * all < 2000 →
    ∃ M' x', P5_62 LL x4 (some ⟨mb, 0, none⟩) u x15 (some ⟨b, 0, none⟩) n M = P5_71 LL x4 (some ⟨mb, 0, none⟩) u x15 (some ⟨b, 0, none⟩) ((n + (if eq = true then all else (m + 1) * all) : Nat) : Int) M' ∧
      IsPk M' b be bb bf x' ∧ (∃ st' wi', IsMem M' mb ma L st' wi') ∧ x'.p = p ∧ x'.s = s ∧ x'.over = true ∧ x'.en = (if eq = true then 0 else 12) ∧ (eq = true → x'.tries = 1) ∧ x'.arr = rdL L p s ∧ Same M M' [b, be, bb, bf, mb] := by
  intro m
  induction m with
  | zero =>
    intro M x st wi n h hp hs hi htm htr hst hn
    subst hp hs
    obtain ⟨r1, r2, r3, r4⟩ := hR
    obtain ⟨M1, x1, e, c1, c2, c3, c4, c5, c6, c7⟩ := al_pass (x4 := x4) (u := u) (x15 := x15) hd (all - 1) M x st wi n h hL (by unfold PK.all; omega) (by omega) (by omega)
    obtain ⟨M2, k1, k2, k3, k4, k5, k6⟩ := al_step c1 (by rw [c2, c3]; exact hL) (by omega) hd
    have ha : x1.all = all := by unfold PK.all; rw [c2, c3]; exact hall.symm
    have hlen := c1.pk.len
    have harr : pkArr L x1 = rdL L x.p x.s := by
      rw [c6, c2, c3, List.take_of_length_le (by unfold pkArr; rw [List.length_set]; omega), List.take_of_length_le (by rw [rdL_length, ha]; omega)] at k5
      exact k5
    have hw : IntKind.wrap .i64 (((n + (all - 1) : Nat) : Int) + 1) = ((n + all : Nat) : Int) := by rw [w64 (by omega)]; omega
    have h1 : (if eq = true then all else (0 + 1) * all) = all := by split <;> omega
    have hex : ∃ x2, pkS L x1 = x2 ∧ x2.p = x.p ∧ x2.s = x.s ∧ x2.over = true ∧ x2.en = (if eq = true then 0 else 12) ∧ (eq = true → x2.tries = 1) ∧ x2.arr = rdL L x.p x.s := by
      refine ⟨_, rfl, ?_⟩
      unfold pkS
      rw [if_neg (by simp [k6]), if_neg (by omega), harr]
      by_cases hq : (rdL L x.p x.s).take x1.s = (rdL L x.p x.s).drop (x1.s + 3 * x1.p)
      · rw [if_pos hq]
        rw [c2, c3, rdL_eq hL] at hq
        have : eq = true := by rw [heq]; exact decide_eq_true hq
        exact ⟨c2, c3, rfl, by rw [if_pos this]; exact c1.en, fun _ => by show x1.tries + 1 = 1; rw [c4, htr this], rfl⟩
      · rw [if_neg hq, if_neg (by omega)]
        rw [c2, c3, rdL_eq hL] at hq
        have : ¬ eq = true := by rw [heq]; simpa using hq
        exact ⟨c2, c3, rfl, by rw [if_neg this], fun h => absurd h this, rfl⟩
    obtain ⟨x2, f1, f2, f3, f4, f5, f6, f7⟩ := hex
    rw [f1] at k2
    obtain ⟨M3, g1, g2, g3, g4⟩ := pk_step k2 k3 (by omega) hd
    have ho2 : pkOver L x2 = true := by unfold pkOver; rw [f4]; rfl
    have hS2 : pkS L x2 = x2 := by unfold pkS; rw [if_pos ho2]
    rw [hS2] at g2
    rw [ho2] at g1
    have hend : P5_62 LL x4 (some ⟨mb, 0, none⟩) u x15 (some ⟨b, 0, none⟩) ((n + all : Nat) : Int) M2 = P5_71 LL x4 (some ⟨mb, 0, none⟩) u x15 (some ⟨b, 0, none⟩) ((n + all : Nat) : Int) M3 := by
      rw [P5_62_eq LL L_loop]
      rw [ifD (by omega), bX g1, bB]
      rfl
    refine ⟨M3, x2, ?_, g2, ⟨_, _, g3⟩, f2, f3, f4, f5, f6, f7, ((c7.trans k4).trans g4).mono (by simp)⟩
    rw [e, h1, P5_62_eq LL L_loop, ifD (by omega), bX k1, bB, ifT, hw, hend]
  | succ m ih =>
    intro M x st wi n h hp hs hi htm htr hst hn
    subst hp hs
    have hR' := hR
    obtain ⟨r1, r2, r3, r4⟩ := hR'
    have hmul : (m + 1 + 1) * all = (m + 1) * all + all := Nat.succ_mul _ _
    rw [hmul] at hst hn
    obtain ⟨M1, x1, e, c1, c2, c3, c4, c5, c6, c7⟩ := al_pass (x4 := x4) (u := u) (x15 := x15) hd (all - 1) M x st wi n h hL (by unfold PK.all; omega) (by omega) (by omega)
    obtain ⟨M2, k1, k2, k3, k4, k5, k6⟩ := al_step c1 (by rw [c2, c3]; exact hL) (by omega) hd
    have ha : x1.all = all := by unfold PK.all; rw [c2, c3]; exact hall.symm
    have hlen := c1.pk.len
    have harr : pkArr L x1 = rdL L x.p x.s := by
      rw [c6, c2, c3, List.take_of_length_le (by unfold pkArr; rw [List.length_set]; omega), List.take_of_length_le (by rw [rdL_length, ha]; omega)] at k5
      exact k5
    have hw : IntKind.wrap .i64 (((n + (all - 1) : Nat) : Int) + 1) = ((n + all : Nat) : Int) := by rw [w64 (by omega)]; omega
    by_cases hq : (rdL L x.p x.s).take x1.s = (rdL L x.p x.s).drop (x1.s + 3 * x1.p)
    · have hS1 : pkS L x1 = { x1 with arr := rdL L x.p x.s, i := x1.all, tries := x1.tries + 1, over := true } := by
        unfold pkS
        rw [if_neg (by simp [k6]), if_neg (by omega), harr, if_pos hq]
      rw [c2, c3, rdL_eq hL] at hq
      have heq' : eq = true := by rw [heq]; exact decide_eq_true hq
      rw [hS1] at k2
      obtain ⟨M3, g1, g2, g3, g4⟩ := pk_step k2 k3 (by omega) hd
      have ho2 : pkOver L { x1 with arr := rdL L x.p x.s, i := x1.all, tries := x1.tries + 1, over := true } = true := by unfold pkOver; rfl
      have hS2 : pkS L { x1 with arr := rdL L x.p x.s, i := x1.all, tries := x1.tries + 1, over := true } = { x1 with arr := rdL L x.p x.s, i := x1.all, tries := x1.tries + 1, over := true } := by unfold pkS; rw [if_pos ho2]
      rw [hS2] at g2
      rw [ho2] at g1
      refine ⟨M3, _, ?_, g2, ⟨_, _, g3⟩, c2, c3, rfl, by rw [if_pos heq']; exact c1.en, fun _ => by show x1.tries + 1 = 1; rw [c4, htr heq'], rfl, ((c7.trans k4).trans g4).mono (by simp)⟩
      have hend : P5_62 LL x4 (some ⟨mb, 0, none⟩) u x15 (some ⟨b, 0, none⟩) ((n + all : Nat) : Int) M2 = P5_71 LL x4 (some ⟨mb, 0, none⟩) u x15 (some ⟨b, 0, none⟩) ((n + all : Nat) : Int) M3 := by
        rw [P5_62_eq LL L_loop]
        rw [ifD (by omega), bX g1, bB]
        rfl
      rw [if_pos heq', e, P5_62_eq LL L_loop, ifD (by omega), bX k1, bB, ifT, hw, hend]
    · have hS1 : pkS L x1 = { x1 with arr := rdL L x.p x.s, i := 0, tries := x1.tries + 1 } := by
        unfold pkS
        rw [if_neg (by simp [k6]), if_neg (by omega), harr, if_neg hq, if_pos (by omega)]
      rw [c2, c3, rdL_eq hL] at hq
      have heq' : ¬ eq = true := by rw [heq]; simpa using hq
      rw [hS1] at k2
      obtain ⟨M', x', e2, d1, d2, d3, d4, d5, d6, d7, d8, d9⟩ := ih M2 _ _ wi (n + all) ⟨k2, k3, c1.ov, c1.en, by simp⟩ c2 c3 rfl (by show x1.tries + 1 + m + 1 = x1.most; omega) (fun h => absurd h heq') (by omega) (by omega)
      refine ⟨M', x', ?_, d1, d2, d3, d4, d5, d6, d7, d8, ((c7.trans k4).trans d9).mono (by simp)⟩
      rw [e, P5_62_eq LL L_loop, ifD (by omega), bX k1, bB, ifT, hw, e2, if_neg heq', if_neg heq']
      congr 1
      omega

end Go.Proofs.Ytpnknolehckfhaa
