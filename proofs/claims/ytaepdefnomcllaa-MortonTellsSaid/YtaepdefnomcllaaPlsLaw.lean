/- The places of a picture, by their numbers: each is there once. Plain Lean. -/
import Derived.Test.YtaepdefnomcllaaPlaces
set_option linter.unusedVariables false
set_option linter.unusedSimpArgs false
namespace Go.Proofs.Ytaepdefnomcllaa
open Go Go.Ax

theorem pl_mem (w h : Nat) : ∀ (d n : Nat) (q : Nat × Nat), q ∈ pl w h d n ↔ (q.1 < w ∧ q.2 < h) ∧ n ≤ mor q.1 q.2 ∧ mor q.1 q.2 < n + d
  | 0, n, q => by simp only [pl, List.not_mem_nil, false_iff]; omega
  | d + 1, n, q => by
    have key : mor q.1 q.2 = n ↔ q = (gat n, gat (n / 2)) := by
      constructor
      · intro e
        have h1 := gat_mor q.1 q.2
        have h2 := gat_half q.1 q.2
        rw [e] at h1 h2
        rw [h1, h2]
      · rintro rfl
        exact mor_gat n
    have ih := pl_mem w h d (n + 1) q
    unfold pl
    split
    · rename_i hc
      rw [List.mem_cons, ih]
      constructor
      · rintro (rfl | h1)
        · exact ⟨hc, by rw [mor_gat]; omega, by rw [mor_gat]; omega⟩
        · exact ⟨h1.1, by omega, by omega⟩
      · rintro ⟨h1, h2, h3⟩
        by_cases e : mor q.1 q.2 = n
        · exact .inl (key.1 e)
        · exact .inr ⟨h1, by omega, by omega⟩
    · rename_i hc
      rw [ih]
      constructor
      · rintro ⟨h1, h2, h3⟩; exact ⟨h1, by omega, by omega⟩
      · rintro ⟨h1, h2, h3⟩
        refine ⟨h1, ?_, by omega⟩
        have : mor q.1 q.2 ≠ n := fun e => hc (by have := key.1 e; rw [this] at h1; exact h1)
        omega

theorem pl_sorted (w h : Nat) : ∀ (d n : Nat), (pl w h d n).Pairwise fun a b => mor a.1 a.2 < mor b.1 b.2
  | 0, n => by simp [pl]
  | d + 1, n => by
    unfold pl
    split
    · refine List.pairwise_cons.2 ⟨fun q hq => ?_, pl_sorted w h d (n + 1)⟩
      have := (pl_mem w h d (n + 1) q).1 hq
      rw [mor_gat]; omega
    · exact pl_sorted w h d (n + 1)

theorem pls_mem {w h : Nat} (hw : 1 ≤ w) (hh : 1 ≤ h) (q : Nat × Nat) : q ∈ pls w h ↔ q.1 < w ∧ q.2 < h := by
  unfold pls
  rw [pl_mem]
  constructor
  · exact fun hq => hq.1
  · intro hq
    have := mor_mono (show q.1 ≤ w - 1 by omega) (show q.2 ≤ h - 1 by omega)
    exact ⟨hq, by omega, by omega⟩

theorem pls_sorted (w h : Nat) : (pls w h).Pairwise fun a b => mor a.1 a.2 < mor b.1 b.2 := pl_sorted w h _ _

/-- Numbers that are all there, each once. -/
theorem all_once : ∀ (N : Nat) (l : List Nat), l.Nodup → (∀ x ∈ l, x < N) → (∀ x, x < N → x ∈ l) → l.length = N
  | 0, l, _, h1, _ => by
    cases l with
    | nil => rfl
    | cons a l => have := h1 a (by simp); omega
  | N + 1, l, hn, h1, h2 => by
    have hm := h2 N (by omega)
    have := all_once N (l.erase N) (hn.erase N) (fun x hx => by
      have h3 := (hn.mem_erase_iff).1 hx
      have := h1 x h3.2
      omega) (fun x hx => (hn.mem_erase_iff).2 ⟨by omega, h2 x (by omega)⟩)
    rw [List.length_erase_of_mem hm] at this
    have : 0 < l.length := List.length_pos_of_mem hm
    omega

/-- A pixel's number. -/
def pix (w : Nat) (q : Nat × Nat) : Nat := q.2 * w + q.1

theorem pix_inj {w : Nat} {q r : Nat × Nat} (hq : q.1 < w) (hr : r.1 < w) (h : pix w q = pix w r) : q = r := by
  unfold pix at h
  have hw : 0 < w := by omega
  have e1 : (q.2 * w + q.1) / w = q.2 := by rw [Nat.mul_comm, Nat.mul_add_div hw, Nat.div_eq_of_lt hq, Nat.add_zero]
  have e2 : (r.2 * w + r.1) / w = r.2 := by rw [Nat.mul_comm, Nat.mul_add_div hw, Nat.div_eq_of_lt hr, Nat.add_zero]
  have e3 : q.2 = r.2 := by rw [← e1, h, e2]
  rw [e3] at h
  exact Prod.ext (by omega) e3

theorem pix_lt {w h : Nat} {q : Nat × Nat} (h1 : q.1 < w) (h2 : q.2 < h) : pix w q < w * h := by
  unfold pix
  have : q.2 * w + w ≤ h * w := by rw [← Nat.succ_mul]; exact Nat.mul_le_mul_right _ h2
  rw [Nat.mul_comm w h]; omega

theorem pls_nodup {w h : Nat} (hw : 1 ≤ w) (hh : 1 ≤ h) : ((pls w h).map (pix w)).Nodup := by
  rw [List.nodup_iff_pairwise_ne, List.pairwise_map]
  refine (pls_sorted w h).imp_of_mem fun {a b} ha hb hab e => ?_
  have := pix_inj ((pls_mem hw hh a).1 ha).1 ((pls_mem hw hh b).1 hb).1 e
  subst this
  omega

theorem pls_all {w h : Nat} (hw : 1 ≤ w) (hh : 1 ≤ h) (k : Nat) (hk : k < w * h) : k ∈ (pls w h).map (pix w) := by
  have hw0 : 0 < w := by omega
  refine List.mem_map.2 ⟨(k % w, k / w), (pls_mem hw hh _).2 ⟨Nat.mod_lt _ hw0, (Nat.div_lt_iff_lt_mul hw0).2 (by rw [Nat.mul_comm]; exact hk)⟩, ?_⟩
  unfold pix
  rw [Nat.mul_comm]; exact Nat.div_add_mod k w

theorem pls_bound {w h : Nat} (hw : 1 ≤ w) (hh : 1 ≤ h) (k : Nat) (hk : k ∈ (pls w h).map (pix w)) : k < w * h := by
  obtain ⟨q, hq, rfl⟩ := List.mem_map.1 hk
  have := (pls_mem hw hh q).1 hq
  exact pix_lt this.1 this.2

theorem pls_length {w h : Nat} (hw : 1 ≤ w) (hh : 1 ≤ h) : (pls w h).length = w * h := by
  have := all_once (w * h) _ (pls_nodup hw hh) (fun x hx => pls_bound hw hh x hx) fun x hx => pls_all hw hh x hx
  simpa using this

end Go.Proofs.Ytaepdefnomcllaa
