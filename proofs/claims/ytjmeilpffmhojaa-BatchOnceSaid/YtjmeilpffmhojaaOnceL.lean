/- BatchOnce: what a step comes to, in numbers; the loops. -/
import Derived.Test.YtjmeilpffmhojaaBatch
import Derived.Test.YtjmeilpffmhojaaClosed
import Derived.Test.YtjmeilpffmhojaaEqBOnce
set_option linter.unusedVariables false
set_option linter.unusedSimpArgs false
namespace Go.Proofs.Ytjmeilpffmhojaa
open Go Go.Ax

/-- A step of an owner: who has some claims again. -/
def onx (k by_ cur : Nat) (s : CS) : CS × Nat :=
  if 1 < s.ph then (s, cur)
  else if s.ph = 0 then ({ s with seen := cur, ph := if k ≤ cur then 2 else 1 }, cur)
  else if s.seen = cur then (.init, min k (cur + by_))
  else ({ s with ph := 0, lost := s.lost + 1 }, cur)

/-- How many steps it takes alone, at most. -/
def oms (k cur : Nat) (s : CS) : Nat :=
  if 1 < s.ph then 0 else if s.ph = 0 then 2 * (k - cur) + 1 else if s.seen = cur then 2 * (k - cur) else 2 * (k - cur) + 2

structure OOk (k cur T : Nat) (s : CS) : Prop where
  seen : s.ph = 1 → 0 ≤ s.seen ∧ s.seen < k
  lost : s.lost ≤ T
  z : s.fr = 0 ∧ s.to = 0
  over : 1 < s.ph → k ≤ cur

theorem onx_ok {k by_ cur T : Nat} {s : CS} (h : OOk k cur T s) (hb : 1 ≤ by_) (hc : cur ≤ k) : OOk k (onx k by_ cur s).2 (T + 1) (onx k by_ cur s).1 ∧ cur ≤ (onx k by_ cur s).2 ∧ (onx k by_ cur s).2 ≤ k := by
  have hl := h.lost
  unfold onx
  by_cases c1 : 1 < s.ph
  · rw [if_pos c1]; exact ⟨⟨h.seen, by show s.lost ≤ _; omega, h.z, h.over⟩, Nat.le_refl _, hc⟩
  · rw [if_neg c1]
    by_cases c0 : s.ph = 0
    · rw [if_pos c0]
      refine ⟨⟨fun e => ?_, by show s.lost ≤ _; omega, h.z, fun e => ?_⟩, Nat.le_refl _, hc⟩
      · by_cases cc : k ≤ cur
        · simp [cc] at e
        · exact ⟨by show (0 : Int) ≤ (cur : Int); omega, by show (cur : Int) < (k : Int); omega⟩
      · by_cases cc : k ≤ cur
        · exact cc
        · simp [cc] at e
    · rw [if_neg c0]
      by_cases e : s.seen = cur
      · rw [if_pos e]
        exact ⟨⟨fun e => by simp [CS.init] at e, by simp [CS.init], ⟨rfl, rfl⟩, fun e => by simp [CS.init] at e⟩, by show cur ≤ min k (cur + by_); omega, by show min k (cur + by_) ≤ k; omega⟩
      · rw [if_neg e]
        exact ⟨⟨fun e => by simp at e, by show s.lost + 1 ≤ _; omega, h.z, fun e => by simp at e⟩, Nat.le_refl _, hc⟩

theorem oms_next {k by_ cur T : Nat} {s : CS} (h : OOk k cur T s) (hb : 1 ≤ by_) (hc : cur ≤ k) : oms k (onx k by_ cur s).2 (onx k by_ cur s).1 ≤ oms k cur s - 1 := by
  unfold onx
  by_cases c1 : 1 < s.ph
  · rw [if_pos c1]; unfold oms; rw [if_pos c1]; omega
  · rw [if_neg c1]
    by_cases c0 : s.ph = 0
    · rw [if_pos c0]
      unfold oms
      by_cases cc : k ≤ cur
      · simp [c0, cc]
      · simp [c0, cc]
    · rw [if_neg c0]
      by_cases e : s.seen = cur
      · rw [if_pos e]
        have := h.seen (by omega)
        unfold oms
        rw [if_neg c1, if_neg c0, if_pos e]
        simp only [CS.init]
        simp
        omega
      · rw [if_neg e]
        unfold oms
        rw [if_neg c1, if_neg c0, if_neg e]
        simp

theorem oms_zero {k cur T : Nat} {s : CS} (h : OOk k cur T s) (h0 : oms k cur s = 0) : 1 < s.ph := by
  unfold oms at h0
  by_cases c1 : 1 < s.ph
  · exact c1
  · rw [if_neg c1] at h0
    by_cases c0 : s.ph = 0
    · rw [if_pos c0] at h0; omega
    · rw [if_neg c0] at h0
      have := h.seen (by omega)
      by_cases e : s.seen = cur
      · rw [if_pos e] at h0; omega
      · rw [if_neg e] at h0; omega

theorem oms_le {k cur : Nat} {s : CS} (hk : k ≤ 60) : oms k cur s ≤ 122 := by
  unfold oms; split
  · omega
  · split
    · omega
    · split <;> omega

/-- How often each particle was had. -/
def hadL (c : Nat) : List Int := (List.range 61).map fun j => if j < c then 1 else 0

theorem hadL_get (c j : Nat) (h : j < 61) : (hadL c)[j]? = some (if j < c then 1 else 0) := by
  unfold hadL; simp [h]

theorem hadL_set (c : Nat) (h : c < 61) : (hadL c).set c 1 = hadL (c + 1) := by
  refine List.ext_getElem? fun j => ?_
  by_cases hj : j < 61
  · rw [hadL_get _ _ hj]
    by_cases e : j = c
    · subst e; rw [List.getElem?_set_self (by simp [hadL]; omega)]; simp
    · rw [List.getElem?_set_ne (Ne.symm e), hadL_get _ _ hj]
      congr 1
      by_cases h1 : j < c
      · rw [if_pos h1, if_pos (by omega)]
      · rw [if_neg h1, if_neg (by omega)]
  · rw [List.getElem?_eq_none (by simp [hadL]; omega), List.getElem?_eq_none (by simp [hadL]; omega)]

/-- The wins: as many as it takes. -/
structure OWin (k by_ cur wins : Nat) : Prop where
  eq : cur = min k (wins * by_)
  lt : wins = 0 ∨ (wins - 1) * by_ < k

theorem OWin.next {k by_ cur wins : Nat} (h : OWin k by_ cur wins) (hc : cur < k) : OWin k by_ (min k (cur + by_)) (wins + 1) := by
  have e := h.eq
  have : cur = wins * by_ := by omega
  exact ⟨by rw [Nat.add_mul, Nat.one_mul, this], .inr (by simp; omega)⟩

theorem OWin.fin {k by_ wins : Nat} (h : OWin k by_ k wins) (hb : 1 ≤ by_) : wins = (k + by_ - 1) / by_ := by
  have e := h.eq
  have h1 : k ≤ wins * by_ := by omega
  symm
  rw [Nat.div_eq_iff (by omega)]
  rcases h.lt with h0 | h2
  · subst h0
    rw [Nat.zero_mul] at h1 ⊢
    omega
  · by_cases h0 : wins = 0
    · subst h0; rw [Nat.zero_mul] at h1 ⊢; omega
    · obtain ⟨w, rfl⟩ : ∃ w, wins = w + 1 := ⟨wins - 1, by omega⟩
      simp only [Nat.add_sub_cancel] at h2
      rw [Nat.add_mul, Nat.one_mul] at h1 ⊢
      omega

end Go.Proofs.Ytjmeilpffmhojaa
