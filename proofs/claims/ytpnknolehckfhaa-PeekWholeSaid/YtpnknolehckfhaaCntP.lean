/- What a film's cells tell of flushes: who began, who ended, what was added. -/
import Derived.Test.YtpnknolehckfhaaFlushQ
set_option linter.unusedVariables false
set_option linter.unusedSimpArgs false
namespace Go.Proofs.Ytpnknolehckfhaa
open Go Go.Ax

/-- A flush of a job. -/
structure Jo (p s : Int) (x : FS) (st : Int) (es : List En) : Prop where
  ok : FlOk p s st es
  ad : x.adds = flAdds s st es
  nx : x.nx ≤ x.adds.length

theorem wsum_cons (a : Int × Int) (A : List (Int × Int)) (c : Nat) : wsum (a :: A) c = (if a.1 = (c : Int) then a.2 else 0) + wsum A c := by simp [wsum]
theorem wsum_nil (c : Nat) : wsum [] c = 0 := rfl

theorem wsum_zero {A : List (Int × Int)} {c : Nat} (h : ∀ a ∈ A, a.1 ≠ (c : Int)) : wsum A c = 0 := by
  induction A with
  | nil => rfl
  | cons a A ih => rw [wsum_cons, if_neg (h a (by simp)), ih (fun b hb => h b (by simp [hb]))]; rfl

/-- What it adds between its first and its last. -/
def mid (s : Int) (es : List En) : List (Int × Int) := es.flatMap (enAdds s)

theorem mid_lo {p s st : Int} {es : List En} (h : FlOk p s st es) : ∀ a ∈ mid s es, 1 + 2 * s ≤ a.1 := by
  intro a ha
  obtain ⟨_, _, he⟩ := h
  obtain ⟨e, hee, ha⟩ := List.mem_flatMap.1 ha
  have hp := he e hee
  simp only [enAdds, chAdd, List.mem_append] at ha
  rcases ha with (ha | ha) | ha
  all_goals
    split at ha
    · simp at ha
    · simp only [List.mem_singleton] at ha
      subst ha
      simp only
      omega

theorem jo_cases {p s : Int} {x : FS} {st : Int} {es : List En} (h : Jo p s x st es) :
    (x.nx = 0 ∧ dn x = []) ∨ (0 < x.nx ∧ x.nx < x.adds.length ∧ ∃ k, dn x = (1 + st, 1) :: (mid s es).take k) ∨ (0 < x.nx ∧ x.nx = x.adds.length ∧ dn x = (1 + st, 1) :: (mid s es ++ [(1 + s + st, 1)])) := by
  obtain ⟨_, ad, nx⟩ := h
  have hl : x.adds.length = (mid s es).length + 2 := by rw [ad]; simp [flAdds, mid]
  unfold dn
  by_cases h0 : x.nx = 0
  · exact .inl ⟨h0, by rw [h0]; rfl⟩
  · obtain ⟨k, hk⟩ : ∃ k, x.nx = k + 1 := ⟨x.nx - 1, by omega⟩
    by_cases hf : x.nx = x.adds.length
    · refine .inr (.inr ⟨by omega, hf, ?_⟩)
      rw [hf, List.take_length, ad]; rfl
    · refine .inr (.inl ⟨by omega, by omega, k, ?_⟩)
      rw [hk, ad]
      show ((1 + st, 1) :: (mid s es ++ [(1 + s + st, 1)])).take (k + 1) = _
      rw [List.take_succ_cons, List.take_append_of_le_length (by omega)]

theorem wsum_b {p s : Int} {x : FS} {st : Int} {es : List En} (h : Jo p s x st es) {S : Nat} (hS : s = (S : Int)) {t : Nat} (ht : t < S) : wsum (dn x) (1 + t) = if st = (t : Int) ∧ 0 < x.nx then 1 else 0 := by
  have hst := h.ok.1
  have hm : ∀ A : List (Int × Int), (∀ a ∈ A, a ∈ mid s es) → wsum A (1 + t) = 0 := fun A hA => wsum_zero fun a ha => by
    have := mid_lo h.ok a (hA a ha); omega
  rcases jo_cases h with ⟨h0, e⟩ | ⟨h0, h1, k, e⟩ | ⟨h0, h1, e⟩
  · rw [e, if_neg (by omega)]; rfl
  · rw [e, wsum_cons, hm _ (fun a ha => List.mem_of_mem_take ha)]
    by_cases c : st = (t : Int)
    · rw [if_pos (by simp only; omega), if_pos ⟨c, h0⟩]; rfl
    · rw [if_neg (by simp only; omega), if_neg (fun h => c h.1)]; rfl
  · rw [e, wsum_cons, wsum_app, hm _ (fun a ha => ha), wsum_cons, wsum_nil]
    rw [if_neg (show ¬ ((1 + s + st, (1 : Int)) : Int × Int).1 = ((1 + t : Nat) : Int) by simp only; omega)]
    by_cases c : st = (t : Int)
    · rw [if_pos (by simp only; omega), if_pos ⟨c, h0⟩]; rfl
    · rw [if_neg (by simp only; omega), if_neg (fun h => c h.1)]; rfl

theorem wsum_e {p s : Int} {x : FS} {st : Int} {es : List En} (h : Jo p s x st es) {S : Nat} (hS : s = (S : Int)) {t : Nat} (ht : t < S) : wsum (dn x) (1 + S + t) = if st = (t : Int) ∧ x.nx = x.adds.length then 1 else 0 := by
  have hst := h.ok.1
  have hm : ∀ A : List (Int × Int), (∀ a ∈ A, a ∈ mid s es) → wsum A (1 + S + t) = 0 := fun A hA => wsum_zero fun a ha => by
    have := mid_lo h.ok a (hA a ha); omega
  have hf : ¬ ((1 + st, (1 : Int)) : Int × Int).1 = ((1 + S + t : Nat) : Int) := by simp only; omega
  rcases jo_cases h with ⟨h0, e⟩ | ⟨h0, h1, k, e⟩ | ⟨h0, h1, e⟩
  · have : x.adds.length ≠ 0 := by rw [h.ad]; simp [flAdds]
    rw [e, if_neg (by omega)]; rfl
  · rw [e, wsum_cons, hm _ (fun a ha => List.mem_of_mem_take ha), if_neg hf, if_neg (by omega)]; rfl
  · rw [e, wsum_cons, wsum_app, hm _ (fun a ha => ha), wsum_cons, wsum_nil, if_neg hf]
    by_cases c : st = (t : Int)
    · rw [if_pos (by simp only; omega), if_pos ⟨c, h1⟩]; rfl
    · rw [if_neg (by simp only; omega), if_neg (fun h => c h.1)]; rfl

theorem wsum_f {p s : Int} {x : FS} {st : Int} {es : List En} (h : Jo p s x st es) {S : Nat} (hS : s = (S : Int)) (k : Nat) (hf : x.nx = x.adds.length) : wsum (dn x) (1 + 2 * S + k) = wsum (mid s es) (1 + 2 * S + k) := by
  have hst := h.ok.1
  rcases jo_cases h with ⟨h0, e⟩ | ⟨h0, h1, _, e⟩ | ⟨h0, h1, e⟩
  · have : x.adds.length ≠ 0 := by rw [h.ad]; simp [flAdds]
    omega
  · omega
  · rw [e, wsum_cons, wsum_app, wsum_cons, wsum_nil, if_neg (by simp only; omega), if_neg (by simp only; omega)]; omega

/-- Where each flush is over, or has not begun, what began has ended. -/
theorem quiet_sum {p s : Int} {l : List Fl} (hJ : ∀ x ∈ l, ∃ st es, Jo p s x.s st es) (hq : ∀ x ∈ l, x.s.nx = 0 ∨ x.s.nx = x.s.adds.length) {S : Nat} (hS : s = (S : Int)) {t : Nat} (ht : t < S) :
    (l.map fun x => wsum (dn x.s) (1 + t)).sum = (l.map fun x => wsum (dn x.s) (1 + S + t)).sum := by
  congr 1
  refine List.map_congr_left fun x hx => ?_
  obtain ⟨st, es, h⟩ := hJ x hx
  have : x.s.adds.length ≠ 0 := by rw [h.ad]; simp [flAdds]
  rw [wsum_b h hS ht, wsum_e h hS ht]
  rcases hq x hx with h0 | h0
  · rw [if_neg (by omega), if_neg (by omega)]
  · by_cases c : st = (t : Int)
    · rw [if_pos ⟨c, by omega⟩, if_pos ⟨c, h0⟩]
    · rw [if_neg (fun h => c h.1), if_neg (fun h => c h.1)]

theorem quiet_eq {n : Nat} {L : List Int} {p s : Int} {l : List Fl} (h : OInv n L l) (hJ : ∀ x ∈ l, ∃ st es, Jo p s x.s st es) (hq : ∀ x ∈ l, x.s.nx = 0 ∨ x.s.nx = x.s.adds.length) {S : Nat} (hS : s = (S : Int)) (hn : 2 * S < n) {t : Nat} (ht : t < S) :
    L.getD (1 + t) 0 = L.getD (1 + S + t) 0 := by
  rw [h.2 _ (by omega), h.2 _ (by omega), quiet_sum hJ hq hS ht]

theorem under_ne {n : Nat} {L : List Int} {p s : Int} {l : List Fl} {x : Fl} (h : OInv n L (l ++ [x])) (hJ : ∀ x ∈ l, ∃ st es, Jo p s x.s st es) (hq : ∀ x ∈ l, x.s.nx = 0 ∨ x.s.nx = x.s.adds.length) {S : Nat} (hS : s = (S : Int)) (hn : 2 * S < n) {st : Int} {es : List En} (hx : Jo p s x.s st es) (h0 : 0 < x.s.nx) (h1 : x.s.nx ≠ x.s.adds.length) :
    ∃ t, t < S ∧ L.getD (1 + t) 0 ≠ L.getD (1 + S + t) 0 := by
  obtain ⟨t, ht⟩ : ∃ t : Nat, st = (t : Int) := ⟨st.toNat, by have := hx.ok.1; omega⟩
  have htS : t < S := by have := hx.ok.1; omega
  refine ⟨t, htS, ?_⟩
  have e := quiet_sum hJ hq hS htS
  rw [h.2 _ (by omega), h.2 _ (by omega), List.map_append, List.map_append, List.sum_append, List.sum_append, e]
  simp only [List.map_cons, List.map_nil, List.sum_cons, List.sum_nil]
  rw [wsum_b hx hS htS, wsum_e hx hS htS, if_pos ⟨ht, h0⟩, if_neg (fun h => h1 h.2)]
  omega

theorem OInv.addz {n : Nat} {L : List Int} {l : List Fl} (h : OInv n L l) (y : Fl) (hy : y.s.nx = 0) : OInv n L (l ++ [y]) := by
  refine ⟨h.1, fun c hc => ?_⟩
  rw [h.2 c hc, List.map_append, List.sum_append]
  simp [dn, hy, wsum]

theorem OInv.last {n : Nat} {L : List Int} {l : List Fl} {f c : Nat} {p : Option Addr} {s : FS} (h : OInv n L (l ++ [⟨f, p, c, s⟩])) (hg : Good n s) : OInv n (fL L s) (l ++ [⟨f, p, c, fS L s⟩]) := by
  have hx : (l ++ [(⟨f, p, c, s⟩ : Fl)])[l.length]? = some ⟨f, p, c, s⟩ := by simp
  have := h.step hx hg
  simpa [Fl.wi] using this

theorem getI_nat {L : List Int} {i : Nat} (h : i < L.length) : getI L (i : Int) = L.getD i 0 := by
  unfold getI
  rw [if_pos ⟨by omega, by omega⟩, Int.toNat_natCast]

end Go.Proofs.Ytpnknolehckfhaa
