/- What the layout functions answer. -/
import Derived.Test.YtjcmnchkgnmooaaEqLayout
set_option linter.unusedVariables false
set_option linter.unusedSimpArgs false
namespace Go.Proofs.Ytjcmnchkgnmooaa
open Go Go.Ax

def Rt (p s : Int) : Prop := 1 ≤ p ∧ p ≤ 65536 ∧ 1 ≤ s ∧ s ≤ 256
instance (p s : Int) : Decidable (Rt p s) := by unfold Rt; infer_instance

abbrev lay (p s : Int) : Value := .agg #[.int .i64 p, .int .i64 s]

theorem right_spec (p s : Int) : ∃ M, LL.call 12 [lay p s] [] = some (.bool (decide (Rt p s)), M) := by
  rw [L_call12, E12]
  unfold Rt
  by_cases h1 : 1 ≤ p <;> by_cases h2 : p ≤ 65536 <;> by_cases h3 : 1 ≤ s <;> by_cases h4 : s ≤ 256 <;> simp [h1, h2, h3, h4]

theorem right12_spec (p s : Int) : ∃ M, LL.call 4 [lay p s] [] = some (.bool (decide (Rt p s)), M) := by
  rw [L_call4, E4]
  unfold Rt
  by_cases h1 : 1 ≤ p <;> by_cases h2 : p ≤ 65536 <;> by_cases h3 : 1 ≤ s <;> by_cases h4 : s ≤ 256 <;> simp [h1, h2, h3, h4] <;> omega

end Go.Proofs.Ytjcmnchkgnmooaa
namespace Go.Proofs.Ytjcmnchkgnmooaa
open Go Go.Ax


theorem stripe_spec (p s a : Int) : ∃ M, LL.call 14 [lay p s, .int .i64 a] [] = some (.int .i64 (if Rt p s ∧ 0 ≤ a ∧ a < p then Int.tmod a s else -1), M) := by
  rw [L_call14, E14]
  obtain ⟨M1, h1⟩ := right_spec p s
  simp only [h1, Option.bind_some, boolOf_bool]
  by_cases hr : Rt p s
  · have hs : ¬ s = 0 := by unfold Rt at hr; omega
    by_cases h3 : 0 ≤ a
    · by_cases h4 : a < p
      · simp [hr, h3, h4, hs, show ¬ a < 0 by omega, show ¬ p ≤ a by omega]
      · simp [hr, h3, h4, show ¬ a < 0 by omega, show p ≤ a by omega]
    · simp [hr, h3, show a < 0 by omega]
  · simp [hr]

end Go.Proofs.Ytjcmnchkgnmooaa
namespace Go.Proofs.Ytjcmnchkgnmooaa
open Go Go.Ax

end Go.Proofs.Ytjcmnchkgnmooaa
