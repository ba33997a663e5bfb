/- What a step does: how many steps are left; who reads what has changed. -/
import Derived.Test.YtpnknolehckfhaaFlushF
set_option linter.unusedVariables false
set_option linter.unusedSimpArgs false
namespace Go.Proofs.Ytpnknolehckfhaa
open Go Go.Ax

/-- A flush that fits a film of so many cells. -/
structure Good (n : Nat) (s : FS) : Prop where
  size : s.size = (n : Int)
  nx : s.nx ≤ s.adds.length
  ad : ∀ a ∈ s.adds, 0 ≤ a.1 ∧ a.1 < (n : Int)

theorem Good.inR {L : List Int} {s : FS} (h : Good L.length s) (hn : s.nx < s.adds.length) : inR L (fAdd s).1 := by
  have : fAdd s ∈ s.adds := by unfold fAdd; rw [List.getD_eq_getElem?_getD, List.getElem?_eq_getElem hn]; exact List.getElem_mem hn
  exact h.ad _ this

theorem Good.over {L : List Int} {s : FS} (h : Good L.length s) : fOver L s = decide (s.adds.length = s.nx) := by
  unfold fOver
  rw [decide_eq_decide, h.size]
  omega

theorem fS_adds (L : List Int) (s : FS) : (fS L s).adds = s.adds := by
  unfold fS; split
  · rfl
  split
  · split <;> rfl
  · rfl

theorem fS_size (L : List Int) (s : FS) : (fS L s).size = s.size := by
  unfold fS; split
  · rfl
  split
  · split <;> rfl
  · rfl

theorem Good.step {L : List Int} {s : FS} (h : Good L.length s) : Good (fL L s).length (fS L s) := by
  rw [fL_length]
  refine ⟨by rw [fS_size]; exact h.size, ?_, by rw [fS_adds]; exact h.ad⟩
  rw [fS_adds]
  have hn := h.nx
  have ho := h.over
  unfold fS
  by_cases e : s.adds.length = s.nx
  · rw [if_pos (by rw [ho]; simpa using e)]; exact hn
  · have e' : ¬ fOver L s = true := by rw [ho]; simpa using e
    rw [if_neg e']
    split
    · split
      · simp only; omega
      · exact hn
    · exact hn

theorem Good.other {L : List Int} {s t : FS} (h : Good L.length s) : Good (fL L t).length s := by rw [fL_length]; exact h

/-- How many steps it takes alone from here. -/
def cost (L : List Int) (s : FS) : Nat :=
  if s.nx < s.adds.length then (if s.rd = true then (if casB L (fAdd s).1 s.seen = true then 2 * (s.adds.length - s.nx) - 1 else 2 * (s.adds.length - s.nx) + 1) else 2 * (s.adds.length - s.nx)) else 0

theorem cost_step {L : List Int} {s : FS} (h : Good L.length s) (hn : s.nx < s.adds.length) : cost (fL L s) (fS L s) + 1 = cost L s := by
  have ho : ¬ fOver L s = true := by rw [h.over]; simp; omega
  have hir := h.inR hn
  cases hr : s.rd with
  | false =>
    have hw : fWon L s = false := by simp [fWon, hr]
    have e1 : fL L s = L := by simp [fL, hw]
    have e2 : fS L s = { s with rd := decide (inR L (fAdd s).1), seen := getI L (fAdd s).1 } := by unfold fS; rw [if_neg ho, if_neg (by simp [hr])]
    rw [e1, e2]
    have e3 : fAdd { s with rd := decide (inR L (fAdd s).1), seen := getI L (fAdd s).1 } = fAdd s := rfl
    have e4 : casB L (fAdd s).1 (getI L (fAdd s).1) = true := decide_eq_true ⟨hir, rfl⟩
    unfold cost
    rw [e3]
    simp only [hn, if_true, hir, decide_true, e4, hr, Bool.false_eq_true, if_false]
    omega
  | true =>
    by_cases hc : casB L (fAdd s).1 s.seen = true
    · have e2 : fS L s = { s with rd := false, nx := s.nx + 1 } := by unfold fS; rw [if_neg ho, if_pos hr, if_pos hc]
      rw [e2]
      unfold cost
      simp only [hn, if_true, hr, hc, Bool.false_eq_true, if_false]
      split <;> omega
    · have e2 : fS L s = { s with rd := false, lost := s.lost + 1 } := by unfold fS; rw [if_neg ho, if_pos hr, if_neg hc]
      rw [e2]
      unfold cost
      simp only [hn, if_true, hr, hc, Bool.false_eq_true, if_false]

theorem cost_le (L : List Int) (s : FS) : cost L s ≤ 2 * (s.adds.length - s.nx) + 1 ∧ 2 * (s.adds.length - s.nx) - 1 ≤ cost L s ∧ (s.rd = false → cost L s = 2 * (s.adds.length - s.nx)) := by
  unfold cost
  split
  · split
    · rename_i hr
      split <;> refine ⟨by omega, by omega, fun h => by rw [hr] at h; cases h⟩
    · exact ⟨by omega, by omega, fun _ => rfl⟩
  · exact ⟨by omega, by omega, fun _ => by omega⟩

/-! ### exchanges that are lost -/

/-- It has read what is there no more. -/
def stale (L : List Int) (s : FS) : Bool := decide (s.nx < s.adds.length) && (s.rd && !casB L (fAdd s).1 s.seen)

def stN (L : List Int) (l : List Fl) : Nat := l.countP fun x => stale L x.s

/-- It loses here. -/
def fLo (L : List Int) (s : FS) : Nat := if !fOver L s && stale L s then 1 else 0

theorem fS_lost (L : List Int) (s : FS) (h : Good L.length s) : (fS L s).lost = s.lost + fLo L s := by
  have ho := h.over
  have hn := h.nx
  unfold fS fLo
  by_cases e : fOver L s = true
  · rw [if_pos e, e]; rfl
  · have e' : fOver L s = false := by simpa using e
    have hlt : s.nx < s.adds.length := by
      rw [ho] at e'; simp at e'; omega
    rw [if_neg e, e']
    unfold stale
    rw [decide_eq_true hlt]
    cases hr : s.rd with
    | false => simp [hr]
    | true =>
      cases hc : casB L (fAdd s).1 s.seen with
      | true => simp [hr, hc]
      | false => simp [hr, hc]

theorem stale_step {L : List Int} {s : FS} (h : Good L.length s) (ho : ¬ fOver L s = true) : stale (fL L s) (fS L s) = false := by
  have hn : s.nx < s.adds.length := by
    have := h.nx
    rw [h.over] at ho; simp at ho; omega
  have hir := h.inR hn
  cases hr : s.rd with
  | false =>
    have hw : fWon L s = false := by simp [fWon, hr]
    have e1 : fL L s = L := by simp [fL, hw]
    have e2 : fS L s = { s with rd := decide (inR L (fAdd s).1), seen := getI L (fAdd s).1 } := by unfold fS; rw [if_neg ho, if_neg (by simp [hr])]
    rw [e1, e2]
    have e4 : casB L (fAdd s).1 (getI L (fAdd s).1) = true := decide_eq_true ⟨hir, rfl⟩
    unfold stale
    show (decide (s.nx < s.adds.length) && (decide (inR L (fAdd s).1) && !casB L (fAdd s).1 (getI L (fAdd s).1))) = false
    rw [e4]
    simp
  | true =>
    by_cases hc : casB L (fAdd s).1 s.seen = true
    · have e2 : fS L s = { s with rd := false, nx := s.nx + 1 } := by unfold fS; rw [if_neg ho, if_pos hr, if_pos hc]
      rw [e2]; simp [stale]
    · have e2 : fS L s = { s with rd := false, lost := s.lost + 1 } := by unfold fS; rw [if_neg ho, if_pos hr, if_neg hc]
      rw [e2]; simp [stale]

theorem lost_bound {L : List Int} {l : List Fl} {k : Nat} {x : Fl} {lost wi : Nat} (hx : l[k]? = some x) (h : Good L.length x.s) (hb : lost + stN L l ≤ wi * (l.length - 1)) :
    lost + fLo L x.s + stN (fL L x.s) (l.set k (x.wi (fS L x.s))) ≤ (wi + fW L x.s) * (l.length - 1) := by
  obtain ⟨hk, hxe⟩ := List.getElem?_eq_some_iff.1 hx
  by_cases ho : fOver L x.s = true
  · have h1 : fLo L x.s = 0 := by simp [fLo, ho]
    have hw : fWon L x.s = false := by simp [fWon, ho]
    have h2 : fL L x.s = L := by simp [fL, hw]
    have h3 : fS L x.s = x.s := by unfold fS; rw [if_pos ho]
    have h4 : fW L x.s = 0 := by simp [fW, hw]
    have h5 : l.set k (x.wi x.s) = l := by
      rw [show x.wi x.s = x from rfl, ← hxe]; exact List.set_getElem_self hk
    rw [h1, h2, h3, h4, h5]
    simpa using hb
  · have hs := stale_step h ho
    have ho' : fOver L x.s = false := by simpa using ho
    by_cases hw : fWon L x.s = true
    · have h4 : fW L x.s = 1 := by simp [fW, hw]
      have h1 : fLo L x.s = 0 := by
        have : x.s.rd = true ∧ casB L (fAdd x.s).1 x.s.seen = true := by unfold fWon at hw; simp at hw; exact hw.2
        simp [fLo, stale, this.2]
      have hlt : stN (fL L x.s) (l.set k (x.wi (fS L x.s))) ≤ l.length - 1 := by
        have h5 : stN (fL L x.s) (l.set k (x.wi (fS L x.s))) ≤ (l.set k (x.wi (fS L x.s))).length := List.countP_le_length
        have h6 : stN (fL L x.s) (l.set k (x.wi (fS L x.s))) ≠ (l.set k (x.wi (fS L x.s))).length := fun e => by
          have := List.countP_eq_length.1 e (x.wi (fS L x.s)) (List.mem_of_getElem? (List.getElem?_set_self hk))
          simp only [Fl.wi] at this
          rw [hs] at this
          cases this
        rw [List.length_set] at h5 h6
        omega
      rw [h1, h4, Nat.add_mul]
      omega
    · have hw' : fWon L x.s = false := by simpa using hw
      have h4 : fW L x.s = 0 := by simp [fW, hw']
      have h2 : fL L x.s = L := by simp [fL, hw']
      rw [h2] at hs ⊢
      have h7 : stN L (l.set k (x.wi (fS L x.s))) = stN L l - (if stale L x.s = true then 1 else 0) + 0 := by
        unfold stN
        rw [List.countP_set hk, hxe]
        have : ¬ stale L (x.wi (fS L x.s)).s = true := by simp only [Fl.wi]; rw [hs]; simp
        rw [if_neg this]
      have h8 : stale L x.s = true → 1 ≤ stN L l := fun e => List.countP_pos_iff.2 ⟨x, List.mem_of_getElem? hx, e⟩
      have h9 : fLo L x.s = if stale L x.s = true then 1 else 0 := by unfold fLo; rw [ho']; simp
      rw [h7, h9, h4]
      by_cases e : stale L x.s = true
      · have := h8 e
        rw [if_pos e, Nat.add_zero wi]
        omega
      · rw [if_neg e]
        simpa using hb

end Go.Proofs.Ytpnknolehckfhaa
