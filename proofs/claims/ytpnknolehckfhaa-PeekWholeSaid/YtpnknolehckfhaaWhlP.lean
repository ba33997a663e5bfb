/- What a look reads while flushes go on: the plain law. -/
import Derived.Test.YtpnknolehckfhaaCntP
import Derived.Test.YtpnknolehckfhaaPeekP
set_option linter.unusedVariables false
set_option linter.unusedSimpArgs false
namespace Go.Proofs.Ytpnknolehckfhaa
open Go Go.Ax

/-- What was added to a cell. -/
def cB (l : List Fl) (c : Nat) : Int := (l.map fun x => wsum (dn x.s) c).sum

/-- The same flushes, later. -/
structure Le (l l' : List Fl) : Prop where
  len : l.length = l'.length
  le : ∀ (j : Nat) (x x' : Fl), l[j]? = some x → l'[j]? = some x' → x.s.adds = x'.s.adds ∧ x.s.nx ≤ x'.s.nx

theorem Le.refl (l : List Fl) : Le l l := ⟨rfl, fun j x x' h h' => by rw [h] at h'; cases h'; exact ⟨rfl, Nat.le_refl _⟩⟩

theorem Le.trans {a b c : List Fl} (h : Le a b) (k : Le b c) : Le a c := ⟨h.len.trans k.len, fun j x x' hx hx' => by
  obtain ⟨y, hy⟩ : ∃ y, b[j]? = some y := ⟨_, List.getElem?_eq_getElem (by have := (List.getElem?_eq_some_iff.1 hx).1; rw [← h.len]; exact this)⟩
  obtain ⟨e1, n1⟩ := h.le j x y hx hy
  obtain ⟨e2, n2⟩ := k.le j y x' hy hx'
  exact ⟨e1.trans e2, Nat.le_trans n1 n2⟩⟩

theorem Le.step {L : List Int} {l : List Fl} {k : Nat} {x : Fl} (hx : l[k]? = some x) : Le l (l.set k (x.wi (fS L x.s))) := by
  refine ⟨by simp, fun j y y' hy hy' => ?_⟩
  by_cases e : k = j
  · subst e
    rw [List.getElem?_set_self (List.getElem?_eq_some_iff.1 hx).1] at hy'
    rw [hx] at hy
    cases hy; cases hy'
    exact ⟨by simp [Fl.wi, fS_adds], by simp only [Fl.wi, fS_nx]; omega⟩
  · rw [List.getElem?_set_ne e] at hy'
    rw [hy] at hy'
    cases hy'
    exact ⟨rfl, Nat.le_refl _⟩

/-- All of them are jobs'. -/
def JL (p s : Int) (l : List Fl) : Prop := ∀ x ∈ l, ∃ st es, Jo p s x.s st es

theorem Le.getx {l l' : List Fl} (h : Le l l') {j : Nat} {x : Fl} (hx : l[j]? = some x) : ∃ x', l'[j]? = some x' :=
  ⟨_, List.getElem?_eq_getElem (by have := (List.getElem?_eq_some_iff.1 hx).1; rw [← h.len]; exact this)⟩

theorem JL.back {p s : Int} {l l' : List Fl} (h : JL p s l') (k : Le l l') : JL p s l := by
  intro x hx
  obtain ⟨j, hj⟩ := List.getElem?_of_mem hx
  obtain ⟨x', hx'⟩ := k.getx hj
  obtain ⟨st, es, h1, h2, h3⟩ := h x' (List.mem_of_getElem? hx')
  obtain ⟨e, n⟩ := k.le j x x' hj hx'
  exact ⟨st, es, h1, by rw [e]; exact h2, by rw [e]; omega⟩

/-- The job's at a place is one, early and late. -/
theorem jl_two {p s : Int} {l l' : List Fl} (h : JL p s l') (k : Le l l') {j : Nat} {x x' : Fl} (hx : l[j]? = some x) (hx' : l'[j]? = some x') : ∃ st es, Jo p s x.s st es ∧ Jo p s x'.s st es ∧ x.s.nx ≤ x'.s.nx := by
  obtain ⟨st, es, h1, h2, h3⟩ := h x' (List.mem_of_getElem? hx')
  obtain ⟨e, n⟩ := k.le j x x' hx hx'
  exact ⟨st, es, ⟨h1, by rw [e]; exact h2, by rw [e]; omega⟩, ⟨h1, h2, h3⟩, n⟩

theorem sums_le {f g : Fl → Int} : ∀ {l l' : List Fl}, l.length = l'.length → (∀ (j : Nat) x x', l[j]? = some x → l'[j]? = some x' → f x ≤ g x') →
    (l.map f).sum ≤ (l'.map g).sum ∧ ((l'.map g).sum ≤ (l.map f).sum → ∀ (j : Nat) x x', l[j]? = some x → l'[j]? = some x' → f x = g x')
  | [], [], _, _ => ⟨by simp, fun _ j x x' h => by simp at h⟩
  | a :: l, b :: l', hl, h => by
    obtain ⟨i1, i2⟩ := sums_le (f := f) (g := g) (l := l) (l' := l') (by simpa using hl) fun j x x' hx hx' => h (j + 1) x x' (by simpa using hx) (by simpa using hx')
    have h0 := h 0 a b rfl rfl
    simp only [List.map_cons, List.sum_cons]
    refine ⟨by omega, fun hs j x x' hx hx' => ?_⟩
    cases j with
    | zero =>
      simp only [List.getElem?_cons_zero, Option.some.injEq] at hx hx'
      subst hx hx'
      omega
    | succ j => exact i2 (by omega) j x x' (by simpa using hx) (by simpa using hx')

theorem mono_b {p s : Int} {l l' : List Fl} (h : JL p s l') (k : Le l l') {S : Nat} (hS : s = (S : Int)) {t : Nat} (ht : t < S) : cB l (1 + t) ≤ cB l' (1 + t) :=
  (sums_le k.len fun j x x' hx hx' => by
    obtain ⟨st, es, h1, h2, h3⟩ := jl_two h k hx hx'
    rw [wsum_b h1 hS ht, wsum_b h2 hS ht]
    by_cases c : st = (t : Int) ∧ 0 < x.s.nx
    · rw [if_pos c, if_pos ⟨c.1, by omega⟩]; omega
    · rw [if_neg c]; split <;> omega).1

theorem mono_e {p s : Int} {l l' : List Fl} (h : JL p s l') (k : Le l l') {S : Nat} (hS : s = (S : Int)) {t : Nat} (ht : t < S) : cB l (1 + S + t) ≤ cB l' (1 + S + t) :=
  (sums_le k.len fun j x x' hx hx' => by
    obtain ⟨st, es, h1, h2, h3⟩ := jl_two h k hx hx'
    rw [wsum_e h1 hS ht, wsum_e h2 hS ht]
    by_cases c : st = (t : Int) ∧ x.s.nx = x.s.adds.length
    · have := h2.nx
      have e : x.s.adds.length = x'.s.adds.length := by rw [h1.ad, h2.ad]
      rw [if_pos c, if_pos ⟨c.1, by omega⟩]; omega
    · rw [if_neg c]; split <;> omega).1

theorem cB_small {p s : Int} : ∀ {l : List Fl}, JL p s l → ∀ {S : Nat}, s = (S : Int) → ∀ {t : Nat}, t < S → (0 ≤ cB l (1 + t) ∧ cB l (1 + t) ≤ l.length) ∧ (0 ≤ cB l (1 + S + t) ∧ cB l (1 + S + t) ≤ l.length)
  | [], _, _, _, _, _ => by simp [cB]
  | x :: l, h, S, hS, t, ht => by
    have ih := cB_small (l := l) (fun y hy => h y (by simp [hy])) hS ht
    obtain ⟨st, es, h1⟩ := h x (by simp)
    unfold cB at ih ⊢
    simp only [List.map_cons, List.sum_cons, List.length_cons]
    rw [wsum_b h1 hS ht, wsum_e h1 hS ht]
    constructor <;> split <;> omega

def Qt (l : List Fl) : Prop := ∀ x ∈ l, x.s.nx = 0 ∨ x.s.nx = x.s.adds.length

/-- Where no more had begun, later, than had ended: nothing happened between, and nothing was under way. -/
theorem same_two {p s : Int} {l l' : List Fl} (h : JL p s l') (k : Le l l') {S : Nat} (hS : s = (S : Int)) (hb : ∀ t, t < S → cB l' (1 + t) ≤ cB l (1 + S + t)) : Qt l ∧ ∀ c, cB l c = cB l' c := by
  have key : ∀ (j : Nat) x x', l[j]? = some x → l'[j]? = some x' → (x.s.nx = 0 ∨ x.s.nx = x.s.adds.length) ∧ dn x.s = dn x'.s := fun j x x' hx hx' => by
    obtain ⟨st, es, h1, h2, h3⟩ := jl_two h k hx hx'
    obtain ⟨t, hst⟩ : ∃ t : Nat, st = (t : Int) := ⟨st.toNat, by have := h1.ok.1; omega⟩
    have htS : t < S := by have := h1.ok.1; omega
    have e : x.s.adds = x'.s.adds := by rw [h1.ad, h2.ad]
    have el : x.s.adds.length = x'.s.adds.length := by rw [e]
    have hpos : x.s.adds.length ≠ 0 := by rw [h1.ad]; simp [flAdds]
    have hn2 := h2.nx
    have := (sums_le (f := fun x => wsum (dn x.s) (1 + S + t)) (g := fun x => wsum (dn x.s) (1 + t)) k.len fun j x x' hx hx' => by
      obtain ⟨st, es, h1, h2, h3⟩ := jl_two h k hx hx'
      have e : x.s.adds.length = x'.s.adds.length := by rw [h1.ad, h2.ad]
      have hpos : x.s.adds.length ≠ 0 := by rw [h1.ad]; simp [flAdds]
      rw [wsum_e h1 hS htS, wsum_b h2 hS htS]
      by_cases c : st = (t : Int) ∧ x.s.nx = x.s.adds.length
      · rw [if_pos c, if_pos ⟨c.1, by omega⟩]; omega
      · rw [if_neg c]; split <;> omega).2 (hb t htS) j x x' hx hx'
    rw [wsum_e h1 hS htS, wsum_b h2 hS htS] at this
    by_cases c : 0 < x'.s.nx
    · rw [if_pos (show st = (t : Int) ∧ 0 < x'.s.nx from ⟨hst, c⟩)] at this
      by_cases d : x.s.nx = x.s.adds.length
      · refine ⟨.inr d, ?_⟩
        unfold dn
        rw [e, show x.s.nx = x'.s.nx by omega]
      · rw [if_neg (fun h => d h.2)] at this; omega
    · refine ⟨.inl (by omega), ?_⟩
      unfold dn
      rw [e, show x.s.nx = x'.s.nx by omega]
  refine ⟨fun x hx => ?_, fun c => ?_⟩
  · obtain ⟨j, hj⟩ := List.getElem?_of_mem hx
    obtain ⟨x', hx'⟩ := k.getx hj
    exact (key j x x' hj hx').1
  · unfold cB
    congr 1
    refine List.ext_getElem? fun j => ?_
    rw [List.getElem?_map, List.getElem?_map]
    cases hx : l[j]? with
    | none =>
      rw [List.getElem?_eq_none_iff] at hx
      rw [List.getElem?_eq_none (by rw [← k.len]; exact hx)]
    | some x =>
      obtain ⟨x', hx'⟩ := k.getx hx
      rw [hx']
      simp only [Option.map_some, (key j x x' hx hx').2]

/-- What a pass has read, when: lm is when the look began, l1 when the last of the ended was read, l2 when the last of the film. -/
structure Ph (P S : Nat) (lm l1 l2 l : List Fl) (arr : List Int) (i : Nat) (met : Bool) : Prop where
  m1 : Le lm l1
  a12 : Le l1 l2
  a2 : Le l2 l
  e : ∀ k, k < S → k < i → arr.getD k 0 ≤ cB l1 (1 + S + k)
  q : S ≤ i → Qt l1 → met = true
  c : ∀ k, k < 3 * P → S + k < i → ∃ lk, Le l1 lk ∧ Le lk l2 ∧ arr.getD (S + k) 0 = cB lk (1 + 2 * S + k) % 18446744073709551616
  b : ∀ t, t < S → S + 3 * P + t < i → cB l2 (1 + t) ≤ arr.getD (S + 3 * P + t) 0

theorem Ph.zero {P S : Nat} {lm l : List Fl} (h : Le lm l) (arr : List Int) (met : Bool) (hS : 0 < S) : Ph P S lm l l l arr 0 met :=
  ⟨h, .refl _, .refl _, fun k _ h => by omega, fun h => by omega, fun k _ h => by omega, fun t _ h => by omega⟩

theorem Ph.go {P S : Nat} {lm l1 l2 l l' : List Fl} {arr : List Int} {i : Nat} {met met' : Bool} (h : Ph P S lm l1 l2 l arr i met) (k : Le l l') (hm : met = true → met' = true) : Ph P S lm l1 l2 l' arr i met' :=
  ⟨h.m1, h.a12, h.a2.trans k, h.e, fun h1 h2 => hm (h.q h1 h2), h.c, h.b⟩

theorem getD_set' {W : List Int} {i : Nat} (hi : i < W.length) (v : Int) (c : Nat) : (W.set i v).getD c 0 = if c = i then v else W.getD c 0 := getD_set hi v c

theorem Ph.read {p s : Int} {P S n : Nat} {lm l1 l2 l : List Fl} {arr : List Int} {i : Nat} {met met' : Bool} {L : List Int} (h : Ph P S lm l1 l2 l arr i met) (hS : s = (S : Int)) (hn : n = 1 + 2 * S + 3 * P) (hJ : JL p s l) (hO : OInv n L l) (hl : l.length ≤ 6) (hi : i < 2 * S + 3 * P) (ha : arr.length = 2 * S + 3 * P) (hm : met = true → met' = true) (hq : Qt l → met' = true) :
    ∃ l1' l2', Ph P S lm l1' l2' l (arr.set i (getI L (pkRd P S i : Nat))) (i + 1) met' := by
  have hLn : L.length = n := hO.1
  have hia : i < arr.length := by omega
  by_cases c1 : i < S
  · have hv : getI L (pkRd P S i : Nat) = cB l (1 + S + i) := by
      have : pkRd P S i = 1 + S + i := by unfold pkRd; rw [if_pos c1]
      rw [this, getI_nat (by omega), hO.2 _ (by omega)]
      have := cB_small hJ hS c1
      unfold cB at this ⊢
      omega
    have h1 := h.a12.trans h.a2
    refine ⟨l, l, h.m1.trans h1, .refl _, .refl _, fun k hk hki => ?_, fun _ hql => hq hql, fun k _ hk => by omega, fun t _ hk => by omega⟩
    rw [getD_set hia, hv]
    by_cases e : k = i
    · rw [if_pos e, e]; omega
    · rw [if_neg e]
      exact Int.le_trans (h.e k hk (by omega)) (mono_e hJ h1 hS hk)
  · by_cases c2 : i < S + 3 * P
    · have hv : getI L (pkRd P S i : Nat) = cB l (1 + 2 * S + (i - S)) % 18446744073709551616 := by
        have : pkRd P S i = 1 + 2 * S + (i - S) := by unfold pkRd; rw [if_neg c1, if_pos c2]
        rw [this, getI_nat (by omega), hO.2 _ (by omega)]
        rfl
      refine ⟨l1, l, h.m1, h.a12.trans h.a2, .refl _, fun k hk hki => ?_, fun h1 h2 => hm (h.q (by omega) h2), fun k hk hki => ?_, fun t _ hk => by omega⟩
      · rw [getD_set hia, if_neg (by omega)]
        exact h.e k hk (by omega)
      · rw [getD_set hia]
        by_cases e : S + k = i
        · rw [if_pos e, hv, show i - S = k by omega]
          exact ⟨l, h.a12.trans h.a2, .refl _, rfl⟩
        · rw [if_neg e]
          obtain ⟨lk, q1, q2, q3⟩ := h.c k hk (by omega)
          exact ⟨lk, q1, q2.trans h.a2, q3⟩
    · have hv : getI L (pkRd P S i : Nat) = cB l (1 + (i - S - 3 * P)) := by
        have : pkRd P S i = 1 + (i - S - 3 * P) := by unfold pkRd; rw [if_neg c1, if_neg c2]
        rw [this, getI_nat (by omega), hO.2 _ (by omega)]
        have := cB_small hJ hS (t := i - S - 3 * P) (by omega)
        unfold cB at this ⊢
        omega
      refine ⟨l1, l2, h.m1, h.a12, h.a2, fun k hk hki => ?_, fun h1 h2 => hm (h.q (by omega) h2), fun k hk hki => ?_, fun t ht hk => ?_⟩
      · rw [getD_set hia, if_neg (by omega)]
        exact h.e k hk (by omega)
      · rw [getD_set hia, if_neg (by omega)]
        exact h.c k hk (by omega)
      · rw [getD_set hia]
        by_cases e : S + 3 * P + t = i
        · rw [if_pos e, hv, show i - S - 3 * P = t by omega]
          exact mono_b hJ h.a2 hS ht
        · rw [if_neg e]
          exact h.b t ht (by omega)

/-- A film that was read: what it is the sum of. -/
structure Whl (P S : Nat) (lm l : List Fl) (F : List Int) : Prop where
  ex : ∃ l1, Le lm l1 ∧ Le l1 l ∧ Qt l1 ∧ ∀ k, k < 3 * P → F.getD k 0 = cB l1 (1 + 2 * S + k) % 18446744073709551616

theorem Ph.fin {p s : Int} {P S : Nat} {lm l1 l2 l : List Fl} {arr : List Int} {met : Bool} (h : Ph P S lm l1 l2 l arr (2 * S + 3 * P) met) (hS : s = (S : Int)) (hJ : JL p s l) (ha : arr.length = 2 * S + 3 * P) (he : arr.take S = arr.drop (S + 3 * P)) :
    met = true ∧ Whl P S lm l ((arr.drop S).take (3 * P)) := by
  have hJ2 := hJ.back h.a2
  have hb : ∀ t, t < S → cB l2 (1 + t) ≤ cB l1 (1 + S + t) := fun t ht => by
    have h1 := h.b t ht (by omega)
    have h2 := h.e t ht (by omega)
    have h3 := congrArg (fun l : List Int => l[t]?) he
    simp only [List.getElem?_take_of_lt ht, List.getElem?_drop] at h3
    rw [List.getD_eq_getElem?_getD] at h1 h2
    rw [h3] at h2
    omega
  have h12 := same_two hJ2 h.a12 hS hb
  refine ⟨h.q (by omega) h12.1, ⟨l1, h.m1, h.a12.trans h.a2, h12.1, fun k hk => ?_⟩⟩
  obtain ⟨lk, q1, q2, q3⟩ := h.c k hk (by omega)
  have hk2 := same_two (hJ2.back q2) q1 hS fun t ht => Int.le_trans (mono_b hJ2 q2 hS ht) (hb t ht)
  rw [← hk2.2] at q3
  rw [← q3, List.getD_eq_getElem?_getD, List.getD_eq_getElem?_getD, List.getElem?_take_of_lt hk, List.getElem?_drop]

end Go.Proofs.Ytpnknolehckfhaa
