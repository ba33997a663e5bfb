/- Numbers laid at the even places: plain arithmetic. -/
import Derived.Test.YtaepdefnomcllaaAxMath
set_option linter.unusedVariables false
set_option linter.unusedSimpArgs false
namespace Go.Ax
open Go

/-- A number's bits at the even places. -/
def spr : Nat → Nat
  | 0 => 0
  | n + 1 => 4 * spr ((n + 1) / 2) + (n + 1) % 2
decreasing_by omega

theorem spr_eq (n : Nat) : spr n = 4 * spr (n / 2) + n % 2 := by
  cases n with
  | zero => simp [spr]
  | succ n => rw [spr]

/-- The bits at the even places, taken together. -/
def gat : Nat → Nat
  | 0 => 0
  | n + 1 => 2 * gat ((n + 1) / 4) + (n + 1) % 2
decreasing_by omega

theorem gat_eq (n : Nat) : gat n = 2 * gat (n / 4) + n % 2 := by
  cases n with
  | zero => simp [gat]
  | succ n => rw [gat]

theorem spr_bit : ∀ (j n : Nat), (spr n).testBit j = (decide (j % 2 = 0) && n.testBit (j / 2))
  | 0, n => by
    rw [spr_eq]
    simp [Nat.testBit_zero]
    congr 1
    omega
  | 1, n => by
    rw [spr_eq, Nat.testBit_succ, Nat.testBit_zero]
    have : (4 * spr (n / 2) + n % 2) / 2 % 2 = 0 := by omega
    simp [this]
  | j + 2, n => by
    rw [spr_eq, Nat.testBit_succ, Nat.testBit_succ]
    have : (4 * spr (n / 2) + n % 2) / 2 / 2 = spr (n / 2) := by omega
    rw [this, spr_bit j (n / 2), show (j + 2) / 2 = j / 2 + 1 by omega, Nat.testBit_succ, show (j + 2) % 2 = j % 2 by omega]

theorem gat_bit : ∀ (j n : Nat), (gat n).testBit j = n.testBit (2 * j)
  | 0, n => by
    rw [gat_eq]
    simp [Nat.testBit_zero]
  | j + 1, n => by
    rw [gat_eq, Nat.testBit_succ]
    have : (2 * gat (n / 4) + n % 2) / 2 = gat (n / 4) := by omega
    rw [this, gat_bit j (n / 4), show 2 * (j + 1) = 2 * j + 1 + 1 by omega, Nat.testBit_succ, Nat.testBit_succ, Nat.div_div_eq_div_mul]

/-- The number of a place. -/
def mor (x y : Nat) : Nat := spr x + 2 * spr y

theorem mor_quot (x y : Nat) : mor x y / 4 = mor (x / 2) (y / 2) := by
  unfold mor; rw [spr_eq x, spr_eq y]; omega

theorem mor_rem (x y : Nat) : mor x y % 4 = x % 2 + 2 * (y % 2) := by
  unfold mor; rw [spr_eq x, spr_eq y]; omega

theorem mor_eq (x y : Nat) : mor x y = 4 * mor (x / 2) (y / 2) + (x % 2 + 2 * (y % 2)) := by
  have h1 := mor_quot x y
  have h2 := mor_rem x y
  omega

theorem mor_bit : ∀ (j x y : Nat), (mor x y).testBit j = if j % 2 = 0 then x.testBit (j / 2) else y.testBit (j / 2)
  | 0, x, y => by
    have := mor_rem x y
    simp [Nat.testBit_zero]
    congr 1
    omega
  | 1, x, y => by
    have := mor_eq x y
    rw [Nat.testBit_succ, Nat.testBit_zero]
    simp only [show ¬ (1 % 2 = 0) by decide, if_false, show 1 / 2 = 0 from rfl, Nat.testBit_zero]
    congr 1
    simp only [eq_iff_iff]
    omega
  | j + 2, x, y => by
    rw [Nat.testBit_succ, Nat.testBit_succ]
    have : mor x y / 2 / 2 = mor (x / 2) (y / 2) := by rw [Nat.div_div_eq_div_mul]; exact mor_quot x y
    rw [this, mor_bit j, show (j + 2) / 2 = j / 2 + 1 by omega, Nat.testBit_succ, Nat.testBit_succ, show (j + 2) % 2 = j % 2 by omega]

theorem mor_or (x y : Nat) : spr x ||| (spr y <<< 1) = mor x y := by
  refine Nat.eq_of_testBit_eq fun j => ?_
  rw [Nat.testBit_or, Nat.testBit_shiftLeft, spr_bit, spr_bit, mor_bit]
  rcases Nat.mod_two_eq_zero_or_one j with h | h
  · have h2 : j = 0 ∨ (1 ≤ j ∧ (j - 1) % 2 = 1) := by omega
    rcases h2 with h2 | ⟨_, h2⟩
    · subst h2; simp
    · simp [h, h2]
  · have h2 : 1 ≤ j ∧ (j - 1) % 2 = 0 ∧ (j - 1) / 2 = j / 2 := by omega
    simp [h, h2.1, h2.2.1, h2.2.2]

/-- What the program does. -/
def stL (a s m : Nat) : Nat := (a ||| a <<< s) &&& m
def stR (a s m : Nat) : Nat := (a ||| a >>> s) &&& m

theorem m1_bit : ∀ j, j < 32 → Nat.testBit 0x00ff00ff j = decide (j % 16 < 8) := by decide
theorem m2_bit : ∀ j, j < 32 → Nat.testBit 0x0f0f0f0f j = decide (j % 8 < 4) := by decide
theorem m3_bit : ∀ j, j < 32 → Nat.testBit 0x33333333 j = decide (j % 4 < 2) := by decide
theorem m4_bit : ∀ j, j < 32 → Nat.testBit 0x55555555 j = decide (j % 2 = 0) := by decide
theorem m5_bit : ∀ j, j < 32 → Nat.testBit 0xffff j = decide (j < 16) := by decide

theorem spread_spr {n : Nat} (h : n < 65536) : stL (stL (stL (stL n 8 0x00ff00ff) 4 0x0f0f0f0f) 2 0x33333333) 1 0x55555555 = spr n := by
  have hb : ∀ k, 16 ≤ k → n.testBit k = false := fun k hk => Nat.testBit_lt_two_pow (Nat.lt_of_lt_of_le h (Nat.pow_le_pow_right (by omega) hk : 2 ^ 16 ≤ 2 ^ k))
  refine Nat.eq_of_testBit_eq fun j => ?_
  rw [spr_bit]
  by_cases hj : j < 32
  · have hc : j = 0 ∨ j = 1 ∨ j = 2 ∨ j = 3 ∨ j = 4 ∨ j = 5 ∨ j = 6 ∨ j = 7 ∨ j = 8 ∨ j = 9 ∨ j = 10 ∨ j = 11 ∨ j = 12 ∨ j = 13 ∨ j = 14 ∨ j = 15 ∨ j = 16 ∨ j = 17 ∨ j = 18 ∨ j = 19 ∨ j = 20 ∨ j = 21 ∨ j = 22 ∨ j = 23 ∨ j = 24 ∨ j = 25 ∨ j = 26 ∨ j = 27 ∨ j = 28 ∨ j = 29 ∨ j = 30 ∨ j = 31 := by omega
    rcases hc with rfl | rfl | rfl | rfl | rfl | rfl | rfl | rfl | rfl | rfl | rfl | rfl | rfl | rfl | rfl | rfl | rfl | rfl | rfl | rfl | rfl | rfl | rfl | rfl | rfl | rfl | rfl | rfl | rfl | rfl | rfl | rfl <;>
      simp [-Nat.testBit_zero, stL, Nat.testBit_and, Nat.testBit_or, Nat.testBit_shiftLeft, m1_bit, m2_bit, m3_bit, m4_bit, hb]
  · have : Nat.testBit 0x55555555 j = false := Nat.testBit_lt_two_pow (Nat.lt_of_lt_of_le (by decide : 0x55555555 < 2 ^ 32) (Nat.pow_le_pow_right (by omega) (by omega)))
    rw [stL, Nat.testBit_and, this, hb (j / 2) (by omega)]
    simp

theorem gathered_gat {n : Nat} (h : n < 4294967296) : stR (stR (stR (stR (n &&& 0x55555555) 1 0x33333333) 2 0x0f0f0f0f) 4 0x00ff00ff) 8 0xffff = gat n := by
  have hb : ∀ k, 32 ≤ k → n.testBit k = false := fun k hk => Nat.testBit_lt_two_pow (Nat.lt_of_lt_of_le h (Nat.pow_le_pow_right (by omega) hk : 2 ^ 32 ≤ 2 ^ k))
  refine Nat.eq_of_testBit_eq fun j => ?_
  rw [gat_bit]
  by_cases hj : j < 16
  · have hc : j = 0 ∨ j = 1 ∨ j = 2 ∨ j = 3 ∨ j = 4 ∨ j = 5 ∨ j = 6 ∨ j = 7 ∨ j = 8 ∨ j = 9 ∨ j = 10 ∨ j = 11 ∨ j = 12 ∨ j = 13 ∨ j = 14 ∨ j = 15 := by omega
    rcases hc with rfl | rfl | rfl | rfl | rfl | rfl | rfl | rfl | rfl | rfl | rfl | rfl | rfl | rfl | rfl | rfl <;>
      simp [-Nat.testBit_zero, stR, Nat.testBit_and, Nat.testBit_or, Nat.testBit_shiftRight, m1_bit, m2_bit, m3_bit, m4_bit, m5_bit, hb]
  · have : Nat.testBit 0xffff j = false := Nat.testBit_lt_two_pow (Nat.lt_of_lt_of_le (by decide : 0xffff < 2 ^ 16) (Nat.pow_le_pow_right (by omega) (by omega)))
    rw [stR, Nat.testBit_and, this, hb (2 * j) (by omega)]
    simp

theorem spr_le : ∀ (n : Nat), n < 65536 → spr n ≤ 1431655765 := fun n h => by
  rw [← spread_spr h]
  exact Nat.and_le_right

theorem mor_lt {x y : Nat} (hx : x < 65536) (hy : y < 65536) : mor x y < 4294967296 := by
  have := spr_le x hx; have := spr_le y hy
  unfold mor; omega

theorem gat_mor : ∀ (x y : Nat), gat (mor x y) = x
  | x, y => by
    by_cases h : x = 0 ∧ y = 0
    · rw [h.1, h.2]; simp [mor, spr, gat]
    · rw [gat_eq, mor_quot, gat_mor (x / 2) (y / 2)]
      have := mor_rem x y
      omega
termination_by x y => x + y
decreasing_by omega

theorem mor_half (x y : Nat) : mor x y / 2 = mor y (x / 2) := by
  unfold mor
  rw [spr_eq x]
  omega

theorem gat_half (x y : Nat) : gat (mor x y / 2) = y := by rw [mor_half, gat_mor]

theorem mor_gat : ∀ (n : Nat), mor (gat n) (gat (n / 2)) = n
  | n => by
    by_cases h : n = 0
    · subst h; simp [mor, spr, gat]
    · have e : n / 2 / 4 = n / 4 / 2 := by omega
      have e1 : gat n / 2 = gat (n / 4) := by rw [gat_eq n]; omega
      have e2 : gat (n / 2) / 2 = gat (n / 4 / 2) := by rw [gat_eq (n / 2), e]; omega
      have e3 : gat n % 2 = n % 2 := by rw [gat_eq n]; omega
      have e4 : gat (n / 2) % 2 = n / 2 % 2 := by rw [gat_eq (n / 2)]; omega
      rw [mor_eq, e1, e2, mor_gat (n / 4), e3, e4]
      omega
termination_by n => n
decreasing_by omega

theorem mor_inj {x y z w : Nat} (h : mor x y = mor z w) : x = z ∧ y = w :=
  ⟨by rw [← gat_mor x y, h, gat_mor], by rw [← gat_half x y, h, gat_half]⟩

theorem spr_mono {x z : Nat} (h : x ≤ z) : spr x ≤ spr z := by
  induction z using Nat.strongRecOn generalizing x with
  | _ z ih =>
    by_cases h0 : z = 0
    · have : x = 0 := by omega
      subst h0; subst this; exact Nat.le_refl _
    · rw [spr_eq x, spr_eq z]
      have := ih (z / 2) (by omega) (x := x / 2) (by omega)
      by_cases e : x / 2 = z / 2
      · rw [e]; omega
      · have h2 : spr (x / 2) < spr (z / 2) := Nat.lt_of_le_of_ne this fun e' => e (by
          have h1 := mor_inj (x := x / 2) (y := 0) (z := z / 2) (w := 0) (by unfold mor; rw [e'])
          exact h1.1)
        omega

theorem mor_mono {x y z w : Nat} (h1 : x ≤ z) (h2 : y ≤ w) : mor x y ≤ mor z w := by
  have := spr_mono h1; have := spr_mono h2; unfold mor; omega

theorem mor_div : ∀ (k x y : Nat), mor x y / 4 ^ k = mor (x / 2 ^ k) (y / 2 ^ k)
  | 0, x, y => by simp
  | k + 1, x, y => by
    rw [Nat.pow_succ, Nat.mul_comm, ← Nat.div_div_eq_div_mul, mor_quot, mor_div k, Nat.pow_succ, Nat.mul_comm (2 ^ k) 2, Nat.div_div_eq_div_mul, Nat.div_div_eq_div_mul]

end Go.Ax
