/- A picture that is handed in. -/
import Derived.Test.YtncfdkmhpnopiaaPic
import Derived.Test.YtncfdkmhpnopiaaAxD
set_option linter.unusedVariables false
set_option linter.unusedSimpArgs false
namespace Go.Proofs.Ytncfdkmhpnopiaa
open Go Go.Ax

theorem pic_holds {A : AMem} {v : Value} (h : HoldsV A (true, [.int .i64, .int .i64, .slice [.int .i64, .int .i64, .int .i64]]) v) :
    ∃ W H p l, v = picV W H p (List.length l) 0 ∧ (-9223372036854775808 ≤ W ∧ W ≤ 9223372036854775807) ∧ (-9223372036854775808 ≤ H ∧ H ≤ 9223372036854775807) ∧ RdL A encP p l.length l ∧ l.length ≤ 9223372036854775807 := by
  unfold HoldsV at h
  rw [if_pos rfl] at h
  obtain ⟨cs, rfl, h⟩ := h
  obtain ⟨v1, r1, e1, h1, h⟩ := holdsL_cons h
  obtain ⟨v2, r2, e2, h2, h⟩ := holdsL_cons h
  obtain ⟨v3, r3, e3, h3, h⟩ := holdsL_cons h
  simp only [HoldsL] at h
  subst h
  simp only [Holds] at h1 h2
  obtain ⟨W, rfl, hW⟩ := h1
  obtain ⟨H, rfl, hH⟩ := h2
  obtain ⟨p, l, rfl, k1, k2, k3⟩ := holds_list encP (fun _ => True) (by simp) h3 fun cs hc => by
    simp only [HoldsL, Holds] at hc
    obtain ⟨_, _, rfl, ⟨x0, rfl, _⟩, _, _, rfl, ⟨x1, rfl, _⟩, _, _, rfl, ⟨x2, rfl, _⟩, rfl⟩ := hc
    exact ⟨⟨x0, x1, x2⟩, trivial, rfl⟩
  have : cs = #[.int .i64 W, .int .i64 H, .slice p l.length 0] := Array.toList_inj.1 (by rw [e1, e2, e3])
  exact ⟨W, H, p, l, by rw [this]; rfl, bounds_i64 hW, bounds_i64 hH, k1, Nat.le_trans k3 (by decide)⟩

end Go.Proofs.Ytncfdkmhpnopiaa
