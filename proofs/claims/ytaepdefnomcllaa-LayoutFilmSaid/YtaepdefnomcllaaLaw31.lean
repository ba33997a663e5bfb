/- LayoutOnce: the law answers true. -/
import Derived.Test.YtaepdefnomcllaaLayout
import Derived.Test.YtaepdefnomcllaaEqLaw31
set_option linter.unusedVariables false
set_option linter.unusedSimpArgs false
namespace Go.Proofs.Ytaepdefnomcllaa
open Go Go.Ax

theorem awake31 : ∃ M, LL.call 13 [] [] = some (.bool true, M) := by
  rw [L_call13, E13]
  have hr : Rt 4 2 := by decide
  obtain ⟨M1, h1⟩ := size_spec 4 2
  obtain ⟨M2, h2⟩ := channel_spec 4 2 1 2
  obtain ⟨M3, h3⟩ := begun_spec 4 2 1 (by omega)
  obtain ⟨M4, h4⟩ := ended_spec 4 2 2
  obtain ⟨M5, h5⟩ := stripe_spec 4 2 3
  obtain ⟨M6, h6⟩ := of_spec 4 2 4
  simp [hr] at h1 h2 h3 h4 h5 h6
  simp [h1, h2, h3, h4, h5, h6, ofZ, aggOf?]

end Go.Proofs.Ytaepdefnomcllaa
namespace Go.Proofs.Ytaepdefnomcllaa
open Go Go.Ax

theorem once_tail (p s q0 k a b c : Int) (hr : Rt p s) (hq : 0 ≤ q0 ∧ q0 ≤ 65535) : ∃ M, P4_51 LL q0 k k p s p s a b c = some (.bool true, M) := by
  have hr' := hr
  unfold Rt at hr'
  rw [P4_51_eq]
  have hw : IntKind.wrap .i64 q0 = q0 := w64 (by omega)
  have hm : Int.tmod q0 p = q0 % p := Int.tmod_eq_emod_of_nonneg (by omega)
  simp only [hw, hm]
  have hq1 : 0 ≤ q0 % p := Int.emod_nonneg _ (by omega)
  have hq2 : q0 % p < p := Int.emod_lt_of_pos _ (by omega)
  generalize q0 % p = q at hq1 hq2
  have hs1 : 0 ≤ q % s := Int.emod_nonneg _ (by omega)
  have hs2 : q % s < s := Int.emod_lt_of_pos _ (by omega)
  have tm : ∀ x : Int, 0 ≤ x → Int.tmod x s = x % s := fun x hx => Int.tmod_eq_emod_of_nonneg hx
  obtain ⟨M1, h1⟩ := stripe_spec p s q
  obtain ⟨M2, h2⟩ := stripe_spec p s (q + s)
  obtain ⟨M3, h3⟩ := stripe_spec p s (q + 1)
  obtain ⟨M4, h4⟩ := channel_spec p s q 2
  obtain ⟨M5, h5⟩ := of_spec p s (1 + 2 * s + (3 * q + 2))
  obtain ⟨M6, h6⟩ := awake31
  have e5 : ofZ s (1 + 2 * s + (3 * q + 2)) = (4, q, 2) := by
    unfold ofZ
    rw [if_neg (by omega), if_neg (by omega), if_neg (by omega)]
    have : 1 + 2 * s + (3 * q + 2) - (1 + 2 * s) = 3 * q + 2 := by omega
    rw [this]
    refine Prod.ext rfl (Prod.ext ?_ ?_) <;> simp only <;> omega
  rw [if_pos ⟨hr, hq1, hq2⟩, tm q hq1] at h1
  rw [if_pos ⟨hr, ⟨hq1, hq2⟩, by omega, by omega⟩] at h4
  rw [if_pos ⟨hr, by omega, by omega⟩, e5] at h5
  have es : (q + s) % s = q % s := by simp
  have e1 : s ≠ 1 → (q + 1) % s ≠ q % s := fun hs he => by
    have hd : s ∣ (q + 1) - q := Int.dvd_of_emod_eq_zero (by rw [Int.sub_emod, he]; simp)
    have : (q + 1) - q = 1 := by omega
    rw [this] at hd
    have := Int.le_of_dvd (by omega) hd
    omega
  have wq : IntKind.wrap .i64 (q + s) = q + s := w64 (by omega)
  have wq1 : IntKind.wrap .i64 (q + 1) = q + 1 := w64 (by omega)
  have hp0 : ¬ p = 0 := by omega
  simp only [hp0, if_false, h1, Option.bind_some, intOf_int, beq_self_eq_true, if_true, show (q % s ≥ 0) from hs1, decide_true, hs2, wq, wq1, h4, h5, h6]
  by_cases c1 : q + s ≥ p
  · by_cases c2 : q + 1 ≥ p
    · simp [c1, c2, aggOf?]
    · rw [if_pos ⟨hr, by omega, by omega⟩, tm (q + 1) (by omega)] at h3
      by_cases c3 : s = 1
      · exfalso; omega
      · simp [c1, c2, c3, h3, e1 c3, aggOf?]
  · rw [if_pos ⟨hr, by omega, by omega⟩, tm (q + s) (by omega), es] at h2
    by_cases c2 : q + 1 ≥ p
    · simp [c1, c2, h2, aggOf?]
    · rw [if_pos ⟨hr, by omega, by omega⟩, tm (q + 1) (by omega)] at h3
      by_cases c3 : s = 1
      · subst c3
        simp [c1, c2, h2, aggOf?]
      · simp [c1, c2, c3, h2, h3, e1 c3, aggOf?]

end Go.Proofs.Ytaepdefnomcllaa
namespace Go.Proofs.Ytaepdefnomcllaa
open Go Go.Ax


theorem of31 (p s : Int) : ∃ M, LL.call 11 [lay p s] [] = some (lay p s, M) := by
  rw [L_call11, E11]; exact ⟨_, rfl⟩

theorem once (p s i q0 : Int) (hi : 0 ≤ i ∧ i ≤ 4294967295) (hq : 0 ≤ q0 ∧ q0 ≤ 65535) : ∃ M, LL.call 4 [lay p s, .int .u32 i, .int .u16 q0] [] = some (.bool true, M) := by
  rw [L_call4, E4]
  obtain ⟨M1, h1⟩ := right12_spec p s
  obtain ⟨M2, h2⟩ := awake31
  obtain ⟨M3, h3⟩ := of31 p s
  by_cases hr : Rt p s
  · have hr' := hr
    unfold Rt at hr'
    obtain ⟨M4, h4⟩ := size_spec p s
    rw [if_pos hr] at h4
    have hw : IntKind.wrap .i64 i = i := w64 (by omega)
    have hm : Int.tmod i (1 + 2 * s + 3 * p) = i % (1 + 2 * s + 3 * p) := Int.tmod_eq_emod_of_nonneg (by omega)
    have hk1 : 0 ≤ i % (1 + 2 * s + 3 * p) := Int.emod_nonneg _ (by omega)
    have hk2 : i % (1 + 2 * s + 3 * p) < 1 + 2 * s + 3 * p := Int.emod_lt_of_pos _ (by omega)
    simp only [h1, h2, h3, h4, hr, Option.bind_some, boolOf_bool, intOf_int, decide_true, Bool.not_true, Bool.false_eq_true, if_false, agg2, get0, get1, hw, hm, show ¬ (1 + 2 * s + 3 * p < 6) by omega, decide_false, show ¬ (1 + 2 * s + 3 * p = 0) by omega]
    generalize i % (1 + 2 * s + 3 * p) = k at hk1 hk2
    obtain ⟨M5, h5⟩ := of_spec p s k
    rw [if_pos ⟨hr, hk1, hk2⟩] at h5
    unfold ofZ at h5
    by_cases c1 : k = 0
    · subst c1
      simp only [if_true] at h5
      obtain ⟨M6, h6⟩ := once_tail p s q0 0 1 0 0 hr hq
      simp [h5, aggOf?, h6]
    · rw [if_neg c1] at h5
      by_cases c2 : k < 1 + s
      · rw [if_pos c2] at h5
        obtain ⟨M6, h6⟩ := once_tail p s q0 k 2 (k - 1) 0 hr hq
        obtain ⟨M7, h7⟩ := begun_spec p s (k - 1) (.inl hr'.2.2.2)
        rw [if_pos ⟨hr, by omega, by omega⟩, show 1 + (k - 1) = k by omega] at h7
        simp [h5, aggOf?, h7, h6]
      · rw [if_neg c2] at h5
        by_cases c3 : k < 1 + 2 * s
        · rw [if_pos c3] at h5
          obtain ⟨M6, h6⟩ := once_tail p s q0 k 3 (k - (1 + s)) 0 hr hq
          obtain ⟨M7, h7⟩ := ended_spec p s (k - (1 + s))
          rw [if_pos ⟨hr, by omega, by omega⟩, show 1 + s + (k - (1 + s)) = k by omega] at h7
          simp [h5, aggOf?, h7, h6]
        · rw [if_neg c3] at h5
          obtain ⟨M6, h6⟩ := once_tail p s q0 k 4 ((k - (1 + 2 * s)) / 3) ((k - (1 + 2 * s)) % 3) hr hq
          obtain ⟨M7, h7⟩ := channel_spec p s ((k - (1 + 2 * s)) / 3) ((k - (1 + 2 * s)) % 3)
          rw [if_pos ⟨hr, by omega, by omega⟩, show 1 + 2 * s + (3 * ((k - (1 + 2 * s)) / 3) + (k - (1 + 2 * s)) % 3) = k by omega] at h7
          simp [h5, aggOf?, h7, h6]
  · simp [h1, hr, h2]

end Go.Proofs.Ytaepdefnomcllaa
