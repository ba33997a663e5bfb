/- What the layout functions answer. -/
import Derived.Test.YtpnknolehckfhaaEqLayout
set_option linter.unusedVariables false
set_option linter.unusedSimpArgs false
namespace Go.Proofs.Ytpnknolehckfhaa
open Go Go.Ax

def Rt (p s : Int) : Prop := 1 ≤ p ∧ p ≤ 65536 ∧ 1 ≤ s ∧ s ≤ 256
instance (p s : Int) : Decidable (Rt p s) := by unfold Rt; infer_instance

abbrev lay (p s : Int) : Value := .agg #[.int .i64 p, .int .i64 s]

theorem right_spec (p s : Int) : ∃ M, LL.call 36 [lay p s] [] = some (.bool (decide (Rt p s)), M) := by
  rw [L_call36, E36]
  unfold Rt
  by_cases h1 : 1 ≤ p <;> by_cases h2 : p ≤ 65536 <;> by_cases h3 : 1 ≤ s <;> by_cases h4 : s ≤ 256 <;> simp [h1, h2, h3, h4]

theorem right12_spec (p s : Int) : ∃ M, LL.call 6 [lay p s] [] = some (.bool (decide (Rt p s)), M) := by
  rw [L_call6, E6]
  unfold Rt
  by_cases h1 : 1 ≤ p <;> by_cases h2 : p ≤ 65536 <;> by_cases h3 : 1 ≤ s <;> by_cases h4 : s ≤ 256 <;> simp [h1, h2, h3, h4] <;> omega

end Go.Proofs.Ytpnknolehckfhaa
namespace Go.Proofs.Ytpnknolehckfhaa
open Go Go.Ax


def beginsZ (s kind : Int) : Int := if kind = 1 then 0 else if kind = 2 then 1 else if kind = 3 then 1 + s else 1 + 2 * s

theorem begins_spec (p s k : Int) (hs : 0 ≤ s ∧ s ≤ 256) : ∃ M, LL.call 53 [lay p s, .int .i64 k] [] = some (.int .i64 (beginsZ s k), M) := by
  rw [L_call53, E53]
  unfold beginsZ
  by_cases h1 : k = 1 <;> by_cases h2 : k = 2 <;> by_cases h3 : k = 3 <;> simp [h1, h2, h3, P53_25_eq, w64 (n := 1 + s) (by omega), w64 (n := 2 * s) (by omega), w64 (n := 1 + 2 * s) (by omega)]

theorem size_spec (p s : Int) : ∃ M, LL.call 35 [lay p s] [] = some (.int .i64 (if Rt p s then 1 + 2 * s + 3 * p else 0), M) := by
  rw [L_call35, E35]
  obtain ⟨M1, h1⟩ := right_spec p s
  simp only [h1, Option.bind_some, boolOf_bool]
  by_cases hr : Rt p s
  · obtain ⟨M2, h2⟩ := begins_spec p s 4 (by unfold Rt at hr; omega)
    unfold Rt at hr
    simp [hr, h2, beginsZ, w64 (n := 3 * p) (by omega), w64 (n := 1 + 2 * s + 3 * p) (by omega), Rt]
  · simp [hr]

end Go.Proofs.Ytpnknolehckfhaa
namespace Go.Proofs.Ytpnknolehckfhaa
open Go Go.Ax

theorem place_spec (p s k a n : Int) (ha : a < 1000000) : ∃ M, LL.call 54 [lay p s, .int .i64 k, .int .i64 a, .int .i64 n] [] = some (.int .i64 (if Rt p s ∧ 0 ≤ a ∧ a < n then beginsZ s k + a else -1), M) := by
  rw [L_call54, E54]
  obtain ⟨M1, h1⟩ := right_spec p s
  simp only [h1, Option.bind_some, boolOf_bool]
  by_cases hr : Rt p s
  · obtain ⟨M2, h2⟩ := begins_spec p s k (by unfold Rt at hr; omega)
    by_cases h3 : 0 ≤ a
    · by_cases h4 : a < n
      · have hb : 0 ≤ beginsZ s k ∧ beginsZ s k ≤ 513 := by unfold beginsZ; unfold Rt at hr; repeat' split
                                                            all_goals omega
        simp [hr, h2, h3, h4, show ¬ a < 0 by omega, show ¬ n ≤ a by omega, w64 (n := beginsZ s k + a) (by omega)]
      · simp [hr, h3, h4, show ¬ a < 0 by omega, show n ≤ a by omega]
    · simp [hr, h3, show a < 0 by omega]
  · simp [hr]

theorem place_spec' (p s k a n : Int) (hn : n ≤ 1000000) : ∃ M, LL.call 54 [lay p s, .int .i64 k, .int .i64 a, .int .i64 n] [] = some (.int .i64 (if Rt p s ∧ 0 ≤ a ∧ a < n then beginsZ s k + a else -1), M) := by
  by_cases ha : a < 1000000
  · exact place_spec p s k a n ha
  · rw [L_call54, E54]
    obtain ⟨M1, h1⟩ := right_spec p s
    simp only [h1, Option.bind_some, boolOf_bool]
    by_cases hr : Rt p s
    · simp [hr, show ¬ a < 0 by omega, show n ≤ a by omega, show ¬ a < n by omega]
    · simp [hr]

theorem begun_spec (p s a : Int) (hs : s ≤ 256 ∨ ¬ Rt p s) : ∃ M, LL.call 37 [lay p s, .int .i64 a] [] = some (.int .i64 (if Rt p s ∧ 0 ≤ a ∧ a < s then 1 + a else -1), M) := by
  rw [L_call37, E37]
  have : ∃ M, LL.call 54 [lay p s, .int .i64 2, .int .i64 a, .int .i64 s] [] = some (.int .i64 (if Rt p s ∧ 0 ≤ a ∧ a < s then 1 + a else -1), M) := by
    by_cases hr : Rt p s
    · exact place_spec' p s 2 a s (by unfold Rt at hr; omega)
    · rw [L_call54, E54]
      obtain ⟨M1, h1⟩ := right_spec p s
      simp [h1, hr]
  obtain ⟨M, h⟩ := this
  simp [h]

theorem ended_spec (p s a : Int) : ∃ M, LL.call 57 [lay p s, .int .i64 a] [] = some (.int .i64 (if Rt p s ∧ 0 ≤ a ∧ a < s then 1 + s + a else -1), M) := by
  rw [L_call57, E57]
  have : ∃ M, LL.call 54 [lay p s, .int .i64 3, .int .i64 a, .int .i64 s] [] = some (.int .i64 (if Rt p s ∧ 0 ≤ a ∧ a < s then 1 + s + a else -1), M) := by
    by_cases hr : Rt p s
    · exact place_spec' p s 3 a s (by unfold Rt at hr; omega)
    · rw [L_call54, E54]
      obtain ⟨M1, h1⟩ := right_spec p s
      simp [h1, hr]
  obtain ⟨M, h⟩ := this
  simp [h]

theorem stripe_spec (p s a : Int) : ∃ M, LL.call 38 [lay p s, .int .i64 a] [] = some (.int .i64 (if Rt p s ∧ 0 ≤ a ∧ a < p then Int.tmod a s else -1), M) := by
  rw [L_call38, E38]
  obtain ⟨M1, h1⟩ := right_spec p s
  simp only [h1, Option.bind_some, boolOf_bool]
  by_cases hr : Rt p s
  · have hs : ¬ s = 0 := by unfold Rt at hr; omega
    by_cases h3 : 0 ≤ a
    · by_cases h4 : a < p
      · simp [hr, h3, h4, hs, show ¬ a < 0 by omega, show ¬ p ≤ a by omega]
      · simp [hr, h3, h4, show ¬ a < 0 by omega, show p ≤ a by omega]
    · simp [hr, h3, show a < 0 by omega]
  · simp [hr]

end Go.Proofs.Ytpnknolehckfhaa
namespace Go.Proofs.Ytpnknolehckfhaa
open Go Go.Ax

theorem place_not (p s k a n : Int) (hr : ¬ Rt p s) : ∃ M, LL.call 54 [lay p s, .int .i64 k, .int .i64 a, .int .i64 n] [] = some (.int .i64 (-1), M) := by
  rw [L_call54, E54]
  obtain ⟨M1, h1⟩ := right_spec p s
  simp [h1, hr]

theorem channel_spec (p s a c : Int) : ∃ M, LL.call 56 [lay p s, .int .i64 a, .int .i64 c] [] = some (.int .i64 (if Rt p s ∧ (0 ≤ a ∧ a < p) ∧ (0 ≤ c ∧ c < 3) then 1 + 2 * s + (3 * a + c) else -1), M) := by
  rw [L_call56, E56]
  by_cases h1 : 0 ≤ c
  · by_cases h2 : c < 3
    · by_cases h3 : 0 ≤ a
      · by_cases h4 : a < p
        · by_cases hr : Rt p s
          · have hp : p ≤ 65536 := hr.2.1
            obtain ⟨M, h⟩ := place_spec' p s 4 (3 * a + c) (3 * p) (by omega)
            have e1 : 3 * a + c < 3 * p := by omega
            have e2 : 0 ≤ 3 * a + c := by omega
            simp [hr, h1, h2, h3, h4, show ¬ c < 0 by omega, show ¬ 3 ≤ c by omega, show ¬ a < 0 by omega, show ¬ p ≤ a by omega, w64 (n := 3 * a) (by omega), w64 (n := 3 * a + c) (by omega), w64 (n := 3 * p) (by omega), h, e1, e2, beginsZ]
          · obtain ⟨M, h⟩ := place_not p s 4 (IntKind.wrap .i64 (IntKind.wrap .i64 (3 * a) + c)) (IntKind.wrap .i64 (3 * p)) hr
            simp [hr, h, show ¬ c < 0 by omega, show ¬ 3 ≤ c by omega, show ¬ a < 0 by omega, show ¬ p ≤ a by omega]
        · simp [h1, h2, h3, h4, show ¬ c < 0 by omega, show ¬ 3 ≤ c by omega, show ¬ a < 0 by omega, show p ≤ a by omega]
      · simp [h1, h2, h3, show ¬ c < 0 by omega, show ¬ 3 ≤ c by omega, show a < 0 by omega]
    · simp [h1, h2, show ¬ c < 0 by omega, show 3 ≤ c by omega]
  · simp [h1, show c < 0 by omega]

end Go.Proofs.Ytpnknolehckfhaa
