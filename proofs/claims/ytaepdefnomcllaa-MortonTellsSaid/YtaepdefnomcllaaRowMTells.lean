/- MortonTells: whatever the numbers, the law answers true, and each argument reads as it did. No condition. -/
import Derived.Test.YtaepdefnomcllaaRows
import Derived.Test.YtaepdefnomcllaaEqRef46
import Derived.Test.YtaepdefnomcllaaRowMBack
import Derived.Test.YtaepdefnomcllaaWalkP
set_option linter.unusedVariables false
set_option linter.unusedSimpArgs false
namespace Go.Proofs.Ytaepdefnomcllaa
open Go Go.Ax

theorem spr_two (a b : Nat) (hb : b < 2) : spr (2 * a + b) = 4 * spr a + b := by
  rw [spr_eq, show (2 * a + b) / 2 = a by omega, show (2 * a + b) % 2 = b by omega]

theorem gat_four (a b : Nat) (hb : b < 4) : gat (4 * a + b) = 2 * gat a + b % 2 := by
  rw [gat_eq, show (4 * a + b) / 4 = a by omega, show (4 * a + b) % 2 = b % 2 by omega]

theorem mod_two_pow (x i : Nat) : x % 2 ^ (i + 1) = 2 * (x / 2 % 2 ^ i) + x % 2 := by
  rw [Nat.pow_succ, Nat.mul_comm, Nat.mod_mul]; omega

theorem mod_four_pow (x i : Nat) : x % 4 ^ (i + 1) = 4 * (x / 4 % 4 ^ i) + x % 4 := by
  rw [Nat.pow_succ, Nat.mul_comm, Nat.mod_mul]; omega

theorem spr_mod : ∀ (i x : Nat), spr (x % 2 ^ (i + 1)) = spr (x % 2 ^ i) + 4 ^ i * (x / 2 ^ i % 2)
  | 0, x => by
    have h0 : spr 0 = 0 := by simp [spr]
    have := spr_two 0 (x % 2) (by omega)
    simp [Nat.mod_one, h0] at this ⊢
    exact this
  | i + 1, x => by
    rw [mod_two_pow x (i + 1), spr_two _ _ (by omega), spr_mod i (x / 2), mod_two_pow x i, spr_two _ _ (by omega), Nat.pow_succ, Nat.div_div_eq_div_mul, show 2 * 2 ^ i = 2 ^ (i + 1) by rw [Nat.pow_succ, Nat.mul_comm]]
    generalize x / 2 ^ (i + 1) % 2 = b
    rw [Nat.mul_add, Nat.mul_comm (4 ^ i) 4, Nat.mul_assoc]
    omega

theorem gat_mod : ∀ (i x : Nat), gat (x % 4 ^ (i + 1)) = gat (x % 4 ^ i) + 2 ^ i * (x / 4 ^ i % 2)
  | 0, x => by
    have h0 : gat 0 = 0 := by simp [gat]
    have := gat_four 0 (x % 4) (by omega)
    simp [Nat.mod_one, h0] at this ⊢
    rw [this]
  | i + 1, x => by
    rw [mod_four_pow x (i + 1), gat_four _ _ (by omega), gat_mod i (x / 4), mod_four_pow x i, gat_four _ _ (by omega), Nat.pow_succ, Nat.div_div_eq_div_mul, show 4 * 4 ^ i = 4 ^ (i + 1) by rw [Nat.pow_succ, Nat.mul_comm]]
    generalize x / 4 ^ (i + 1) % 2 = b
    rw [Nat.mul_add, Nat.mul_comm (2 ^ i) 2, Nat.mul_assoc]
    omega

theorem bit_nat (a s : Nat) (ha : a < 9223372036854775808) (hs : s ≤ 64) :
    IntKind.wrap .i64 (Int.ofNat (BitVec.toNat (BitVec.ofInt (IntKind.bits .i64) (Int.fdiv (a : Int) (2 ^ (min s (IntKind.bits .i64)))) &&& BitVec.ofInt (IntKind.bits .i64) 1))) = ((a / 2 ^ s % 2 : Nat) : Int) := by
  have h1 : a >>> s ≤ a := by rw [Nat.shiftRight_eq_div_pow]; exact Nat.div_le_self _ _
  have := band_nat (a := a >>> s) (b := 1) (by omega) (by decide)
  rw [show min s (IntKind.bits .i64) = s by show min _ 64 = _; omega, shr_nat]
  rw [Nat.and_one_is_mod, Nat.shiftRight_eq_div_pow] at this
  rw [Nat.shiftRight_eq_div_pow]
  exact this

theorem rof_loop (x y : Nat) (hx : x < 65536) (hy : y < 65536) : ∀ (d i : Nat), i + d = 16 →
    P47_16 LL x y (mor (x % 2 ^ i) (y % 2 ^ i) : Nat) i = some (.int .i64 (mor x y : Nat), []) := by
  intro d
  induction d with
  | zero =>
    intro i hi
    obtain rfl : i = 16 := by omega
    rw [P47_16_eq LL L_loop, Nat.mod_eq_of_lt (by omega : x < 2 ^ 16), Nat.mod_eq_of_lt (by omega : y < 2 ^ 16)]
    have : ¬ (((16 : Nat) : Int) < 16) := by omega
    simp only [this, decide_false, Bool.false_eq_true, if_false, P47_27_eq]
  | succ d ih =>
    intro i hi
    rw [P47_16_eq LL L_loop]
    have c1 : (i : Int) < 16 := by omega
    have c2 : ¬ (i : Int) < 0 := by omega
    have e1 : IntKind.wrap .i64 (2 * (i : Int)) = ((2 * i : Nat) : Int) := by rw [w64 (by omega)]; omega
    have c3 : ¬ ((2 * i : Nat) : Int) < 0 := by omega
    have e2 : IntKind.wrap .i64 (((2 * i : Nat) : Int) + 1) = ((2 * i + 1 : Nat) : Int) := by rw [w64 (by omega)]; rfl
    have c4 : ¬ ((2 * i + 1 : Nat) : Int) < 0 := by omega
    have b1 := bit_nat x i (by omega) (by omega)
    have b2 := bit_nat y i (by omega) (by omega)
    have hp : 4 ^ i ≤ 4 ^ 15 := Nat.pow_le_pow_right (by decide) (by omega)
    have p1 : 2 ^ (2 * i) = 4 ^ i := by rw [Nat.pow_mul]
    have p2 : 2 ^ (2 * i + 1) = 4 ^ i * 2 := by rw [Nat.pow_succ, p1]
    have hb1 : x / 2 ^ i % 2 < 2 := Nat.mod_lt _ (by decide)
    have hb2 : y / 2 ^ i % 2 < 2 := Nat.mod_lt _ (by decide)
    have hxm : x % 2 ^ i ≤ x := Nat.mod_le _ _
    have hym : y % 2 ^ i ≤ y := Nat.mod_le _ _
    have hm0 := mor_lt (x := x % 2 ^ i) (y := y % 2 ^ i) (by omega) (by omega)
    have hstep : mor (x % 2 ^ (i + 1)) (y % 2 ^ (i + 1)) = mor (x % 2 ^ i) (y % 2 ^ i) + (x / 2 ^ i % 2) * 4 ^ i + (y / 2 ^ i % 2) * (4 ^ i * 2) := by
      unfold mor
      rw [spr_mod, spr_mod, Nat.mul_comm (4 ^ i), Nat.mul_comm (4 ^ i) (y / 2 ^ i % 2), ← Nat.mul_assoc]
      omega
    generalize x / 2 ^ i % 2 = bx at b1 hb1 hstep
    generalize y / 2 ^ i % 2 = by' at b2 hb2 hstep
    have m1 : bx * 4 ^ i ≤ 4 ^ 15 := by
      have := Nat.mul_le_mul (show bx ≤ 1 by omega) hp
      omega
    have m2 : by' * (4 ^ i * 2) ≤ 4 ^ 15 * 2 := by
      have := Nat.mul_le_mul (show by' ≤ 1 by omega) (Nat.mul_le_mul_right 2 hp)
      omega
    have s1 : IntKind.wrap .i64 ((bx : Int) * 2 ^ (min (2 * i) (IntKind.bits .i64))) = ((bx * 4 ^ i : Nat) : Int) := by
      rw [show min (2 * i) (IntKind.bits .i64) = 2 * i by show min _ 64 = _; omega, show (bx : Int) * 2 ^ (2 * i) = ((bx * 4 ^ i : Nat) : Int) by rw [← p1]; simp]
      exact w64 (by omega)
    have s2 : IntKind.wrap .i64 ((by' : Int) * 2 ^ (min (2 * i + 1) (IntKind.bits .i64))) = ((by' * (4 ^ i * 2) : Nat) : Int) := by
      rw [show min (2 * i + 1) (IntKind.bits .i64) = 2 * i + 1 by show min _ 64 = _; omega, show (by' : Int) * 2 ^ (2 * i + 1) = ((by' * (4 ^ i * 2) : Nat) : Int) by rw [← p2]; simp]
      exact w64 (by omega)
    have hi1 : IntKind.wrap .i64 ((i : Int) + 1) = ((i + 1 : Nat) : Int) := by rw [w64 (by omega)]; rfl
    have := ih (i + 1) (by omega)
    generalize mor (x % 2 ^ i) (y % 2 ^ i) = m at hm0 hstep
    have t1 : IntKind.wrap .i64 ((m : Int) + ((bx * 4 ^ i : Nat) : Int)) = ((m + bx * 4 ^ i : Nat) : Int) := by rw [w64 (by omega)]; rfl
    have t2 : IntKind.wrap .i64 (((m + bx * 4 ^ i : Nat) : Int) + ((by' * (4 ^ i * 2) : Nat) : Int)) = ((mor (x % 2 ^ (i + 1)) (y % 2 ^ (i + 1)) : Nat) : Int) := by rw [hstep, w64 (by omega)]; rfl
    simp only [c1, c2, c3, c4, decide_true, if_true, if_false, e1, e2, Int.toNat_natCast, b1, b2, s1, s2, t1, t2, P47_26_eq, hi1]
    exact this

theorem rof_spec (x y : Int) : ∃ M, LL.call 47 [.int .i64 x, .int .i64 y] [] = some (.int .i64 (ofI x y), M) := by
  rw [L_call47, E47]
  unfold ofI
  by_cases h : inB x y
  · have hx := h.1; have hy := h.2
    have := rof_loop x.toNat y.toNat (by omega) (by omega) 16 0 (by omega)
    have z : mor (x.toNat % 2 ^ 0) (y.toNat % 2 ^ 0) = 0 := by simp [Nat.mod_one, mor, spr]
    rw [z, Int.toNat_of_nonneg hx.1, Int.toNat_of_nonneg hy.1] at this
    simp only [show ¬ x < 0 by omega, show ¬ y < 0 by omega, show ¬ x > 65535 by omega, show ¬ y > 65535 by omega, decide_false, Bool.false_eq_true, if_false, h, if_true]
    exact ⟨_, this⟩
  · rw [if_neg h]
    unfold inB at h
    by_cases c1 : x < 0
    · simp [c1]
    · by_cases c2 : y < 0
      · simp [c1, c2]
      · by_cases c3 : x > 65535
        · simp [c1, c2, c3]
        · simp [c1, c2, c3, show y > 65535 by omega]

theorem rback_loop (n : Nat) (hn : n < 4294967296) : ∀ (d i : Nat), i + d = 16 →
    P43_16 LL n (gat (n % 4 ^ i) : Nat) (gat (n / 2 % 4 ^ i) : Nat) i = some (.tuple #[.int .i64 (gat n : Nat), .int .i64 (gat (n / 2) : Nat)], []) := by
  intro d
  induction d with
  | zero =>
    intro i hi
    obtain rfl : i = 16 := by omega
    rw [P43_16_eq LL L_loop, Nat.mod_eq_of_lt (by omega : n < 4 ^ 16), Nat.mod_eq_of_lt (by omega : n / 2 < 4 ^ 16)]
    have : ¬ (((16 : Nat) : Int) < 16) := by omega
    simp only [this, decide_false, Bool.false_eq_true, if_false, P43_29_eq]
  | succ d ih =>
    intro i hi
    rw [P43_16_eq LL L_loop]
    have c1 : (i : Int) < 16 := by omega
    have c2 : ¬ (i : Int) < 0 := by omega
    have e1 : IntKind.wrap .i64 (2 * (i : Int)) = ((2 * i : Nat) : Int) := by rw [w64 (by omega)]; omega
    have c3 : ¬ ((2 * i : Nat) : Int) < 0 := by omega
    have e2 : IntKind.wrap .i64 (((2 * i : Nat) : Int) + 1) = ((2 * i + 1 : Nat) : Int) := by rw [w64 (by omega)]; rfl
    have c4 : ¬ ((2 * i + 1 : Nat) : Int) < 0 := by omega
    have b1 := bit_nat n (2 * i) (by omega) (by omega)
    have b2 := bit_nat n (2 * i + 1) (by omega) (by omega)
    have p1 : 2 ^ (2 * i) = 4 ^ i := by rw [Nat.pow_mul]
    have p2 : n / 2 ^ (2 * i + 1) = n / 2 / 4 ^ i := by rw [Nat.pow_succ, p1, Nat.mul_comm, Nat.div_div_eq_div_mul]
    rw [p1] at b1; rw [p2] at b2
    have hp : 2 ^ i ≤ 2 ^ 15 := Nat.pow_le_pow_right (by decide) (by omega)
    have hb1 : n / 4 ^ i % 2 < 2 := Nat.mod_lt _ (by decide)
    have hb2 : n / 2 / 4 ^ i % 2 < 2 := Nat.mod_lt _ (by decide)
    have gl : ∀ m, m < 4294967296 → gat m < 65536 := fun m hm => by
      rw [← gathered_gat hm]; exact Nat.lt_of_le_of_lt Nat.and_le_right (by decide)
    have q1 := gl (n % 4 ^ i) (by have := Nat.mod_le n (4 ^ i); omega)
    have q2 := gl (n / 2 % 4 ^ i) (by have := Nat.mod_le (n / 2) (4 ^ i); omega)
    have h1 := gat_mod i n
    have h2 := gat_mod i (n / 2)
    rw [Nat.mul_comm] at h1 h2
    generalize n / 4 ^ i % 2 = bx at b1 hb1 h1
    generalize n / 2 / 4 ^ i % 2 = by' at b2 hb2 h2
    have m1 : bx * 2 ^ i ≤ 2 ^ 15 := by have := Nat.mul_le_mul (show bx ≤ 1 by omega) hp; omega
    have m2 : by' * 2 ^ i ≤ 2 ^ 15 := by have := Nat.mul_le_mul (show by' ≤ 1 by omega) hp; omega
    have hmin : min i (IntKind.bits .i64) = i := by show min _ 64 = _; omega
    have s1 : IntKind.wrap .i64 ((bx : Int) * 2 ^ i) = ((bx * 2 ^ i : Nat) : Int) := by
      rw [show (bx : Int) * 2 ^ i = ((bx * 2 ^ i : Nat) : Int) by simp]; exact w64 (by omega)
    have s2 : IntKind.wrap .i64 ((by' : Int) * 2 ^ i) = ((by' * 2 ^ i : Nat) : Int) := by
      rw [show (by' : Int) * 2 ^ i = ((by' * 2 ^ i : Nat) : Int) by simp]; exact w64 (by omega)
    have hi1 : IntKind.wrap .i64 ((i : Int) + 1) = ((i + 1 : Nat) : Int) := by rw [w64 (by omega)]; rfl
    have := ih (i + 1) (by omega)
    generalize gat (n % 4 ^ i) = g1 at q1 h1
    generalize gat (n / 2 % 4 ^ i) = g2 at q2 h2
    have t1 : IntKind.wrap .i64 ((g1 : Int) + ((bx * 2 ^ i : Nat) : Int)) = ((gat (n % 4 ^ (i + 1)) : Nat) : Int) := by rw [h1, w64 (by omega)]; rfl
    have t2 : IntKind.wrap .i64 ((g2 : Int) + ((by' * 2 ^ i : Nat) : Int)) = ((gat (n / 2 % 4 ^ (i + 1)) : Nat) : Int) := by rw [h2, w64 (by omega)]; rfl
    simp only [c1, c2, c3, c4, decide_true, if_true, if_false, e1, e2, Int.toNat_natCast, b1, b2, hmin, s1, s2, t1, t2, P43_28_eq, hi1]
    exact this

theorem rback_spec (n : Int) : ∃ M, LL.call 43 [.int .i64 n] [] = some (.tuple #[.int .i64 (backI n).1, .int .i64 (backI n).2], M) := by
  rw [L_call43, E43]
  unfold backI
  by_cases h : 0 ≤ n ∧ n < 4294967296
  · have := rback_loop n.toNat (by omega) 16 0 (by omega)
    have z : ∀ m : Nat, gat (m % 4 ^ 0) = 0 := fun m => by simp [Nat.mod_one, gat]
    rw [z, z, Int.toNat_of_nonneg h.1] at this
    simp only [show ¬ n < 0 by omega, show ¬ n > 4294967295 by omega, decide_false, Bool.false_eq_true, if_false, h, and_self, if_true]
    exact ⟨_, this⟩
  · rw [if_neg h]
    by_cases c1 : n < 0
    · simp [c1]
    · simp [c1, show n > 4294967295 by omega]

theorem rtile_loop (n k : Nat) (hn : n < 4294967296) (hk : k ≤ 16) : ∀ (d i : Nat), i + d = k → P48_14 LL (n / 4 ^ i : Nat) k i = some (.int .i64 (n / 4 ^ k : Nat), []) := by
  intro d
  induction d with
  | zero =>
    intro i hi
    obtain rfl : i = k := by omega
    rw [P48_14_eq LL L_loop]
    have : ¬ ((i : Int) < (i : Int)) := by omega
    simp only [this, decide_false, Bool.false_eq_true, if_false, P48_25_eq]
  | succ d ih =>
    intro i hi
    rw [P48_14_eq LL L_loop]
    have c1 : (i : Int) < (k : Int) := by omega
    have hi1 : IntKind.wrap .i64 ((i : Int) + 1) = ((i + 1 : Nat) : Int) := by rw [w64 (by omega)]; rfl
    have hq : ∀ m : Nat, m ≤ n → IntKind.wrap .i64 (Int.tdiv (m : Int) 4) = ((m / 4 : Nat) : Int) := fun m hm => by
      rw [Int.tdiv_eq_ediv_of_nonneg (by omega), w64 (by omega)]; omega
    have e := hq (n / 4 ^ i) (Nat.div_le_self _ _)
    rw [Nat.div_div_eq_div_mul, ← Nat.pow_succ] at e
    simp only [c1, decide_true, if_true, e, P48_24_eq, hi1]
    exact ih (i + 1) (by omega)

theorem rtile_spec (n k : Int) : ∃ M, LL.call 48 [.int .i64 n, .int .i64 k] [] = some (.int .i64 (tileI n k), M) := by
  rw [L_call48, E48]
  unfold tileI
  by_cases h : (0 ≤ n ∧ n < 4294967296) ∧ (0 ≤ k ∧ k < 17)
  · have := rtile_loop n.toNat k.toNat (by omega) (by omega) k.toNat 0 (by omega)
    rw [Nat.pow_zero, Nat.div_one, Int.toNat_of_nonneg h.1.1, Int.toNat_of_nonneg h.2.1] at this
    simp only [show ¬ n < 0 by omega, show ¬ n > 4294967295 by omega, show ¬ k < 0 by omega, show ¬ k > 16 by omega, decide_false, Bool.false_eq_true, if_false, h, and_self, if_true]
    exact ⟨_, this⟩
  · rw [if_neg h]
    by_cases c1 : n < 0
    · simp [c1]
    · by_cases c2 : n > 4294967295
      · simp [c1, c2]
      · by_cases c3 : k < 0
        · simp [c1, c2, c3]
        · simp [c1, c2, c3, show k > 16 by omega]

/-! #### the document's walk: each place is put where it belongs -/

theorem wrL_app' : ∀ (V A Z : List Value), V.length ≤ Z.length → wrL (A ++ Z) A.length V = A ++ V ++ Z.drop V.length
  | [], A, Z, _ => by simp [wrL]
  | v :: V, A, [], h => by simp at h
  | v :: V, A, z :: Z, h => by
    have := wrL_app' V (A ++ [v]) Z (by simpa using h)
    simp only [wrL]
    rw [show (A ++ z :: Z).set A.length v = A ++ v :: Z by simp]
    simp only [List.length_append, List.length_cons, List.length_nil, Nat.zero_add, List.append_assoc, List.cons_append, List.nil_append, List.drop_succ_cons] at this ⊢
    exact this

abbrev Pl := Nat × Nat

def key (q : Pl) : Nat := mor q.1 q.2

theorem put_at (l : List Pl) (i : Nat) (hi : i ≤ l.length) (z v : Pl) :
    wrL ((l.take i ++ z :: l.drop i).flatMap encP) (i * 2) (encP v) = (l.take i ++ v :: l.drop i).flatMap encP := by
  have := wrL_app' (encP v) ((l.take i).flatMap encP) ((z :: l.drop i).flatMap encP) (by rw [List.flatMap_cons]; simp [encP])
  rw [flatMap_length encP_len, List.length_take, Nat.min_eq_left hi] at this
  rw [List.flatMap_append, this, List.flatMap_append, List.flatMap_cons, List.flatMap_cons, List.append_assoc]
  congr 1

theorem ins_loop {w h N c a : Nat} {M0 : AMem} {l : List Pl} {e : Pl} (hN : l.length + 1 = N) (hNb : N ≤ 70000) (he : e.1 < 65536 ∧ e.2 < 65536) (hl : ∀ q ∈ l, q.1 < 65536 ∧ q.2 < 65536) : ∀ (i : Nat) (M : AMem) (z : Pl), i ≤ l.length →
    (∀ j (hj : j < l.length), i ≤ j → key e < key l[j]) → Cells M a ((l.take i ++ z :: l.drop i).flatMap encP) →
    ∃ M' k, P45_43 LL w h (some ⟨a, 0, none⟩) N c e.2 e.1 i M = P45_55 LL w h (some ⟨a, 0, none⟩) N c e.2 e.1 M' ∧ Cells M' a ((l.take k ++ e :: l.drop k).flatMap encP) ∧ k ≤ l.length ∧
      (∀ j (hj : j < l.length), k ≤ j → key e < key l[j]) ∧ (∀ (hk : k - 1 < l.length), 0 < k → key l[k - 1] ≤ key e) ∧ Same M M' [a] := by
  have fin : ∀ (i : Nat) (M : AMem) (z : Pl), i ≤ l.length → (∀ j (hj : j < l.length), i ≤ j → key e < key l[j]) → Cells M a ((l.take i ++ z :: l.drop i).flatMap encP) → (∀ (hk : i - 1 < l.length), 0 < i → key l[i - 1] ≤ key e) →
      ∃ M' k, P45_54 LL w h (some ⟨a, 0, none⟩) N c e.2 e.1 i M = P45_55 LL w h (some ⟨a, 0, none⟩) N c e.2 e.1 M' ∧ Cells M' a ((l.take k ++ e :: l.drop k).flatMap encP) ∧ k ≤ l.length ∧
      (∀ j (hj : j < l.length), k ≤ j → key e < key l[j]) ∧ (∀ (hk : k - 1 < l.length), 0 < k → key l[k - 1] ≤ key e) ∧ Same M M' [a] := by
    intro i M z hi hj hc hk
    have hlen : ((l.take i ++ z :: l.drop i).flatMap encP).length = N * 2 := by rw [flatMap_length encP_len]; simp; omega
    obtain ⟨M', w1, w2, w3, _⟩ := hc.wr (o := i * 2) (vs := encP e) (by rw [hlen]; simp [encP]; omega)
    rw [put_at l i hi] at w2
    refine ⟨M', i, ?_, w2, hi, hj, hk, w3⟩
    rw [P45_54_eq]
    have c1 : (0 : Int) ≤ (i : Int) ∧ (i : Int) < Int.ofNat N := by rw [ofN]; omega
    unfold encP at w1
    simp only [c1, and_self, if_true, Nat.zero_add, Int.toNat_natCast, w1, Option.bind_some]
  intro i
  induction i with
  | zero =>
    intro M z hi hj hc
    obtain ⟨M', k, g⟩ := fin 0 M z hi hj hc (fun _ h => by omega)
    refine ⟨M', k, ?_, g.2⟩
    rw [P45_43_eq LL L_loop, ← g.1]
    have : ¬ (((0 : Nat) : Int) > 0) := by omega
    simp only [this, decide_false, Bool.false_eq_true, if_false]
  | succ i ih =>
    intro M z hi hj hc
    have hil : i < l.length := by omega
    have hq := List.getElem?_eq_getElem hil
    have hqb := hl _ (List.getElem_mem hil)
    have hfl : (l.take (i + 1) ++ z :: l.drop (i + 1))[i]? = some l[i] := by
      rw [List.getElem?_append_left (by simp; omega), List.getElem?_take_of_lt (by omega), hq]
    have e0 := flat_get encP_len _ i 0 _ hfl (by omega)
    have e1 := flat_get encP_len _ i 1 _ hfl (by omega)
    simp only [encP, get0, get1, Nat.add_zero] at e0 e1
    have c0 : (((i + 1 : Nat) : Int) > 0) := by omega
    have w1 : IntKind.wrap .i64 (((i + 1 : Nat) : Int) - 1) = (i : Int) := by rw [w64 (by omega)]; omega
    have c1 : (0 : Int) ≤ (i : Int) ∧ (i : Int) < Int.ofNat N := by rw [ofN]; omega
    have c2 : (0 : Int) ≤ ((i + 1 : Nat) : Int) ∧ ((i + 1 : Nat) : Int) < Int.ofNat N := by rw [ofN]; omega
    obtain ⟨_, m1⟩ := rof_spec (l[i].1 : Nat) (l[i].2 : Nat)
    obtain ⟨_, m2⟩ := rof_spec (e.1 : Nat) (e.2 : Nat)
    have o1 : ofI (l[i].1 : Nat) (l[i].2 : Nat) = ((key l[i] : Nat) : Int) := by rw [ofI, if_pos (by unfold inB; omega), Int.toNat_natCast, Int.toNat_natCast]; rfl
    have o2 : ofI (e.1 : Nat) (e.2 : Nat) = ((key e : Nat) : Int) := by rw [ofI, if_pos (by unfold inB; omega), Int.toNat_natCast, Int.toNat_natCast]; rfl
    rw [o1] at m1; rw [o2] at m2
    by_cases hlt : key l[i] > key e
    · have hlt' : ((key l[i] : Nat) : Int) > ((key e : Nat) : Int) := by omega
      have hlen : ((l.take (i + 1) ++ z :: l.drop (i + 1)).flatMap encP).length = N * 2 := by rw [flatMap_length encP_len]; simp; omega
      obtain ⟨M1, x1, x2, x3, _⟩ := hc.wr (o := (i + 1) * 2) (vs := encP l[i]) (by rw [hlen]; simp [encP]; omega)
      rw [put_at l (i + 1) hi] at x2
      have hre : l.take (i + 1) ++ l[i] :: l.drop (i + 1) = l.take i ++ l[i] :: l.drop i := by
        rw [List.take_add_one, hq, List.drop_eq_getElem_cons hil, List.append_assoc]; rfl
      rw [hre] at x2
      obtain ⟨M', k, g1, g2, g3, g4, g5, g6⟩ := ih M1 _ (by omega) (fun j hjl hij => by
        by_cases e' : j = i
        · subst e'; exact hlt
        · exact hj j hjl (by omega)) x2
      refine ⟨M', k, ?_, g2, g3, g4, g5, (x3.trans g6).mono (by simp)⟩
      rw [P45_43_eq LL L_loop, ← g1]
      unfold encP at x1
      simp only [c0, decide_true, if_true, w1, c1, c2, and_self, Nat.zero_add, Int.toNat_natCast, hc.ld, e0, e1, intOf_int, Option.bind_some, m1, m2, hlt', x1]
    · have hlt' : ¬ ((key l[i] : Nat) : Int) > ((key e : Nat) : Int) := by omega
      obtain ⟨M', k, g⟩ := fin (i + 1) M z hi hj hc (fun _ _ => by simp only [Nat.add_sub_cancel]; omega)
      refine ⟨M', k, ?_, g.2⟩
      rw [P45_43_eq LL L_loop, ← g.1]
      simp only [c0, decide_true, if_true, w1, c1, and_self, Nat.zero_add, Int.toNat_natCast, hc.ld, e0, e1, intOf_int, Option.bind_some, m1, m2, hlt', decide_false, Bool.false_eq_true, if_false]

/-- In order by their numbers. -/
def Sor (l : List Pl) : Prop := l.Pairwise fun a b => key a < key b

theorem sor_ins {l : List Pl} {e : Pl} {k : Nat} (hs : Sor l) (hk : k ≤ l.length) (hne : ∀ q ∈ l, key q ≠ key e) (h1 : ∀ j (hj : j < l.length), k ≤ j → key e < key l[j]) (h2 : ∀ (hk : k - 1 < l.length), 0 < k → key l[k - 1] ≤ key e) :
    Sor (l.take k ++ e :: l.drop k) := by
  have hall : ∀ q ∈ l.take k, key q < key e := fun q hq => by
    obtain ⟨j, hj, rfl⟩ := List.getElem_of_mem hq
    rw [List.length_take] at hj
    have hjk : j < k := by omega
    have hjl : j < l.length := by omega
    rw [List.getElem_take]
    have h3 := h2 (by omega) (by omega)
    have hne' := hne _ (List.getElem_mem hjl)
    by_cases e' : j = k - 1
    · subst e'; omega
    · have := List.pairwise_iff_getElem.1 hs j (k - 1) hjl (by omega) (by omega)
      omega
  have hafter : ∀ q ∈ l.drop k, key e < key q := fun q hq => by
    obtain ⟨j, hj, rfl⟩ := List.getElem_of_mem hq
    rw [List.length_drop] at hj
    rw [List.getElem_drop]
    exact h1 _ (by omega) (by omega)
  unfold Sor
  rw [List.pairwise_append]
  refine ⟨List.Pairwise.sublist (List.take_sublist _ _) hs, List.pairwise_cons.2 ⟨hafter, List.Pairwise.sublist (List.drop_sublist _ _) hs⟩, fun a ha b hb => ?_⟩
  rcases List.mem_cons.1 hb with rfl | hb
  · exact hall a ha
  · have := hall a ha; have := hafter b hb; omega

theorem sor_unique : ∀ {l m : List Pl}, Sor l → Sor m → (∀ q, q ∈ l ↔ q ∈ m) → l = m
  | [], [], _, _, _ => rfl
  | [], b :: m, _, _, h => by have := (h b).2 (by simp); simp at this
  | a :: l, [], _, _, h => by have := (h a).1 (by simp); simp at this
  | a :: l, b :: m, hl, hm, h => by
    unfold Sor at hl hm
    rw [List.pairwise_cons] at hl hm
    have hab : a = b := by
      rcases List.mem_cons.1 ((h a).1 (by simp)) with e | e
      · exact e
      · rcases List.mem_cons.1 ((h b).2 (by simp)) with e' | e'
        · exact e'.symm
        · have := hm.1 a e; have := hl.1 b e'; omega
    subst hab
    rw [sor_unique hl.2 hm.2 fun q => ?_]
    have h1 := h q
    constructor
    · intro hq
      rcases List.mem_cons.1 (h1.1 (List.mem_cons_of_mem _ hq)) with e | e
      · subst e; have := hl.1 _ hq; omega
      · exact e
    · intro hq
      rcases List.mem_cons.1 (h1.2 (List.mem_cons_of_mem _ hq)) with e | e
      · subst e; have := hm.1 _ hq; omega
      · exact e

theorem mem_put (l : List Pl) (k : Nat) (e q : Pl) : q ∈ l.take k ++ e :: l.drop k ↔ q = e ∨ q ∈ l := by
  rw [List.mem_append, List.mem_cons]
  have : q ∈ l ↔ q ∈ l.take k ∨ q ∈ l.drop k := by
    rw [← List.mem_append, List.take_append_drop]
  rw [this]
  constructor
  · rintro (h | h | h)
    · exact .inr (.inl h)
    · exact .inl h
    · exact .inr (.inr h)
  · rintro (h | h | h)
    · exact .inr (.inl h)
    · exact .inl h
    · exact .inr (.inr h)

structure WkInv (M0 : AMem) (w y x : Nat) (p : Option Addr) (c : Nat) (l : List Pl) (M : AMem) : Prop where
  sor : Sor l
  mem : ∀ q, q ∈ l ↔ (q.1 < w ∧ q.2 < y) ∨ (q.2 = y ∧ q.1 < x)
  len : l.length = y * w + x
  own : Slc M 2 p l.length c (l.flatMap encP)
  same : Same M0 M []
  fresh : ∀ b ∈ blk p, M0.length ≤ b

theorem wk_inner {M0 : AMem} {w h : Nat} (hw : w ≤ 256) (hh : h ≤ 256) {y : Nat} (hy : y < h) : ∀ (d x : Nat) (p : Option Addr) (c : Nat) (l : List Pl) (M : AMem), x + d = w → WkInv M0 w y x p c l M →
    ∃ p' c' l' M', P45_28 LL w h p l.length c y x M = P45_16 LL w h p' l'.length c' ((y + 1 : Nat) : Int) M' ∧ WkInv M0 w (y + 1) 0 p' c' l' M' := by
  intro d
  induction d with
  | zero =>
    intro x p c l M hx hI
    obtain rfl : x = w := by omega
    refine ⟨p, c, l, M, ?_, hI.sor, fun q => ?_, by rw [hI.len, Nat.succ_mul]; omega, hI.own, hI.same, hI.fresh⟩
    · rw [P45_28_eq LL L_loop]
      have c1 : ¬ ((x : Int) < (x : Int)) := by omega
      have hw1 : IntKind.wrap .i64 ((y : Int) + 1) = ((y + 1 : Nat) : Int) := by rw [w64 (by omega)]; rfl
      simp only [c1, decide_false, Bool.false_eq_true, if_false, P45_56_eq, hw1]
    · rw [hI.mem q]
      constructor
      · rintro (h1 | h1)
        · exact .inl (by omega)
        · exact .inl (by omega)
      · rintro (h1 | h1)
        · by_cases e : q.2 = y
          · exact .inr (by omega)
          · exact .inl (by omega)
        · omega
  | succ d ih =>
    intro x p c l M hx hI
    have hyw : y * w ≤ 255 * 256 := Nat.mul_le_mul (by omega) hw
    have hlen := hI.len
    obtain ⟨M1, g1, g2, g3⟩ := grn_row (bytes := 16) (new := encP (x, y)) (m := 1) (v := 0) hI.own rfl (by omega) (by omega)
    have hc1 : Cells M1 (M.length + 1) ((l.take l.length ++ (x, y) :: l.drop l.length).flatMap encP) := by
      obtain ⟨a, e1, e2⟩ := g2.pos (by omega)
      simp at e1
      subst e1
      rw [List.take_length, List.drop_length, List.flatMap_append]
      simpa using e2
    have hb : ∀ q ∈ l, q.1 < 65536 ∧ q.2 < 65536 := fun q hq => by
      have := (hI.mem q).1 hq; omega
    obtain ⟨M2, k, k1, k2, k3, k4, k5, k6⟩ := ins_loop (w := w) (h := h) (N := l.length + 1) (c := 2) (M0 := M) (l := l) (e := (x, y)) rfl (by omega) ⟨by simp only; omega, by simp only; omega⟩ hb l.length M1 (x, y) (Nat.le_refl _) (fun j hj h => by omega) hc1
    have hne : ∀ q ∈ l, key q ≠ key (x, y) := fun q hq e => by
      have h1 := mor_inj e
      have h2 := (hI.mem q).1 hq
      simp only at h1
      omega
    have hl' : (l.take k ++ (x, y) :: l.drop k).length = l.length + 1 := by simp; omega
    obtain ⟨p', c', l', M', j1, j2⟩ := ih (x + 1) (some ⟨M.length + 1, 0, none⟩) 2 (l.take k ++ (x, y) :: l.drop k) M2 (by omega)
      ⟨sor_ins hI.sor k3 hne k4 k5, fun q => by
        rw [mem_put, hI.mem q]
        constructor
        · rintro (rfl | h1 | h1)
          · exact .inr ⟨rfl, by simp only; omega⟩
          · exact .inl h1
          · exact .inr (by omega)
        · rintro (h1 | h1)
          · exact .inr (.inl h1)
          · by_cases e : q.1 = x
            · exact .inl (Prod.ext e h1.1)
            · exact .inr (.inr (by omega)), by rw [hl', hlen]; omega, .of k2 (by rw [flatMap_length encP_len]), ((hI.same.trans g3.same).trans k6).mono' (fun b hb hlt => by
        have := hI.same.le
        simp at hb
        rcases hb with hb | hb
        · have := hI.fresh b hb; omega
        · omega), fun b hb => by simp at hb; have := hI.same.le; omega⟩
    refine ⟨p', c', l', M', ?_, j2⟩
    rw [hl'] at j1
    rw [← j1, P45_28_eq LL L_loop]
    have c1 : (x : Int) < (w : Int) := by omega
    have hw1 : IntKind.wrap .i64 ((x : Int) + 1) = ((x + 1 : Nat) : Int) := by rw [w64 (by omega)]; rfl
    have hrow := rowOf_new M 2 1 (encP (x, y)) 0 2 rfl
    unfold encP at hrow g1
    simp only [c1, decide_true, if_true, hrow, Option.bind_some, g1, ofN]
    refine k1.trans ?_
    rw [P45_55_eq, hw1]

theorem wk_outer {M0 : AMem} {w h : Nat} (hw : 1 ≤ w ∧ w ≤ 256) (hh : 1 ≤ h ∧ h ≤ 256) : ∀ (d y : Nat) (p : Option Addr) (c : Nat) (l : List Pl) (M : AMem), y + d = h → WkInv M0 w y 0 p c l M →
    ∃ p' c' M', P45_16 LL w h p l.length c y M = some (.slice p' (pls w h).length c', M') ∧ Slc M' 2 p' (pls w h).length c' ((pls w h).flatMap encP) ∧ Same M0 M' [] := by
  intro d
  induction d with
  | zero =>
    intro y p c l M hy hI
    obtain rfl : y = h := by omega
    have : l = pls w y := sor_unique hI.sor (pls_sorted w y) fun q => by
      rw [hI.mem q, pls_mem hw.1 hh.1]; omega
    subst this
    refine ⟨p, c, M, ?_, hI.own, hI.same⟩
    rw [P45_16_eq LL L_loop]
    have c1 : ¬ ((y : Int) < (y : Int)) := by omega
    simp only [c1, decide_false, Bool.false_eq_true, if_false, P45_57_eq]
  | succ d ih =>
    intro y p c l M hy hI
    obtain ⟨p1, c1, l1, M1, j1, j2⟩ := wk_inner hw.2 hh.2 (show y < h by omega) w 0 p c l M (by omega) hI
    obtain ⟨p', c', M', k1, k2, k3⟩ := ih (y + 1) p1 c1 l1 M1 (by omega) j2
    refine ⟨p', c', M', ?_, k2, k3⟩
    rw [← k1, ← j1, P45_16_eq LL L_loop]
    have c1 : (y : Int) < (h : Int) := by omega
    simp only [c1, decide_true, if_true]
    rfl

theorem rwalk_spec (w h : Nat) (hw : 1 ≤ w ∧ w ≤ 256) (hh : 1 ≤ h ∧ h ≤ 256) (M : AMem) :
    ∃ M' p c, LL.call 45 [.int .i64 (w : Int), .int .i64 (h : Int)] M = some (.slice p (pls w h).length c, M') ∧ Slc M' 2 p (pls w h).length c ((pls w h).flatMap encP) ∧ Same M M' [] := by
  rw [L_call45, E45]
  obtain ⟨p', c', M', k1, k2, k3⟩ := wk_outer (M0 := M) hw hh h 0 none 0 [] M (by omega) ⟨.nil, fun q => by simp, by simp, .nil _ _ _, .refl _ _, by simp⟩
  refine ⟨M', p', c', ?_, k2, k3⟩
  simp only [show ¬ (w : Int) < 1 by omega, show ¬ (h : Int) < 1 by omega, show ¬ (w : Int) > 256 by omega, show ¬ (h : Int) > 256 by omega, decide_false, Bool.false_eq_true, if_false]
  exact k1

theorem rwalk_none (w h : Int) (hn : ¬ ((1 ≤ w ∧ w ≤ 256) ∧ (1 ≤ h ∧ h ≤ 256))) (M : AMem) : LL.call 45 [.int .i64 w, .int .i64 h] M = some (.slice none 0 0, M) := by
  rw [L_call45, E45]
  by_cases c1 : w < 1
  · simp [c1]
  · by_cases c2 : h < 1
    · simp [c1, c2]
    · by_cases c3 : w > 256
      · simp [c1, c2, c3]
      · simp [c1, c2, c3, show h > 256 by omega]

/-! #### the law -/

theorem mt_end (x y n k : Int) (M : AMem) : ∃ M', P9_45 LL x y n k (backI n).1 (backI n).2 (backI n).1 (backI n).2 M = some (.bool true, M') := by
  rw [P9_45_eq]
  obtain ⟨_, a1⟩ := mof_spec x y
  obtain ⟨_, a2⟩ := rof_spec x y
  obtain ⟨_, a3⟩ := mtile_spec n k
  obtain ⟨_, a4⟩ := rtile_spec n k
  obtain ⟨_, aw⟩ := awake46
  simp only [a1, a2, a3, a4, aw, Option.bind_some, intOf_int, boolOf_bool, beq_self_eq_true, if_true]
  exact ⟨_, rfl⟩

theorem mt_loop {w : Nat} (hw : w ≤ 256) (x y n k : Int) {l : List Pl} (hlb : ∀ q ∈ l, q.1 < 256 ∧ q.2 < 256) (hN : l.length ≤ 70000) {a b o : Nat} {c1 c2 c3 : Nat} {M : AMem} (ha : Rd M a (l.flatMap encP)) (hb : Rd M b (l.flatMap encP))
    (ho : Rd M o (l.flatMap fun q => [.int .i64 ((q.2 * w + q.1 : Nat) : Int)])) : ∀ (d i : Nat), i + d = l.length →
    ∃ M', P9_28 LL x y n k w (backI n).1 (backI n).2 (backI n).1 (backI n).2 (some ⟨a, 0, none⟩) l.length c1 (some ⟨b, 0, none⟩) l.length c2 (some ⟨o, 0, none⟩) l.length c3 i M = some (.bool true, M') := by
  intro d
  induction d with
  | zero =>
    intro i hi
    obtain rfl : i = l.length := by omega
    obtain ⟨M', g⟩ := mt_end x y n k M
    refine ⟨M', ?_⟩
    rw [P9_28_eq LL L_loop]
    have : ¬ ((l.length : Int) < Int.ofNat l.length) := by rw [ofN]; omega
    simp only [this, decide_false, Bool.false_eq_true, if_false]
    exact g
  | succ d ih =>
    intro i hi
    obtain ⟨M', g⟩ := ih (i + 1) (by omega)
    refine ⟨M', ?_⟩
    have hil : i < l.length := by omega
    have hq := List.getElem?_eq_getElem hil
    have hqb := hlb _ (List.getElem_mem hil)
    generalize l[i] = q at hq hqb
    obtain ⟨qx, qy⟩ := q
    have e0 := flat_get encP_len l i 0 _ hq (by omega)
    have e1 := flat_get encP_len l i 1 _ hq (by omega)
    have e2 := flat_get (k := 1) (enc := fun q : Pl => [.int .i64 ((q.2 * w + q.1 : Nat) : Int)]) (fun _ => rfl) l i 0 _ hq (by omega)
    simp only [encP, get0, get1, Nat.add_zero, Nat.mul_one] at e0 e1 e2
    simp only at hqb
    have hyw : qy * w ≤ 255 * 256 := Nat.mul_le_mul (by omega) hw
    have ew : IntKind.wrap .i64 (IntKind.wrap .i64 ((qy : Int) * (w : Int)) + (qx : Int)) = ((qy * w + qx : Nat) : Int) := by
      rw [show (qy : Int) * (w : Int) = ((qy * w : Nat) : Int) by simp, w64 (n := ((qy * w : Nat) : Int)) (by omega), w64 (by omega)]; simp
    have c1' : (i : Int) < Int.ofNat l.length := by rw [ofN]; omega
    have c0 : (0 : Int) ≤ (i : Int) := by omega
    have hwi : IntKind.wrap .i64 ((i : Int) + 1) = ((i + 1 : Nat) : Int) := by rw [w64 (by omega)]; rfl
    rw [P9_28_eq LL L_loop]
    simp only [c1', c0, and_self, decide_true, if_true, Nat.zero_add, Nat.mul_one, Int.toNat_natCast, ha.ld, hb.ld, ho.ld, e0, e1, e2, intOf_int, Option.bind_some, beq_self_eq_true, Bool.and_self, Bool.not_true, Bool.false_eq_true, if_false, ew, bne_self_eq_false, P9_44_eq, hwi]
    exact g

theorem mtells_law (x y n k w h : Int) (M : AMem) : ∃ M', LL.call 9 [.int .i64 x, .int .i64 y, .int .i64 n, .int .i64 k, .int .i64 w, .int .i64 h] M = some (.bool true, M') := by
  rw [L_call9, E9]
  obtain ⟨_, aw⟩ := awake46
  obtain ⟨_, a1⟩ := mback_spec n
  obtain ⟨_, a2⟩ := rback_spec n
  by_cases hg : (1 ≤ w ∧ w ≤ 256) ∧ (1 ≤ h ∧ h ≤ 256)
  · have g1 : w ≥ 1 := hg.1.1
    have g3 : h ≥ 1 := hg.2.1
    by_cases c1 : w > 12
    · simp only [g1, g3, hg.1.2, hg.2.2, c1, decide_true, if_true, aw, Option.bind_some, boolOf_bool]; exact ⟨_, rfl⟩
    · by_cases c2 : h > 12
      · simp only [g1, g3, hg.1.2, hg.2.2, c1, c2, decide_true, decide_false, Bool.false_eq_true, if_false, if_true, aw, Option.bind_some, boolOf_bool]; exact ⟨_, rfl⟩
      · obtain ⟨wn, hn, rfl, rfl⟩ : ∃ wn hn : Nat, w = wn ∧ h = hn := ⟨w.toNat, h.toNat, by omega, by omega⟩
        obtain ⟨M1, p, c, k1, k2, k3⟩ := walk_spec wn hn (by omega) (by omega) M
        obtain ⟨M2, q, d, j1, j2, j3⟩ := rwalk_spec wn hn (by omega) (by omega) M1
        obtain ⟨M3, o, e, i1, i2, i3⟩ := order_spec wn hn (by omega) (by omega) M2
        have hlen := pls_length (w := wn) (h := hn) (by omega) (by omega)
        have hN : wn * hn ≤ 12 * 12 := Nat.mul_le_mul (by omega) (by omega)
        have hN0 : 0 < wn * hn := Nat.mul_pos (by omega) (by omega)
        obtain ⟨pa, rfl, ha⟩ := k2.pos (by omega)
        obtain ⟨pb, rfl, hb⟩ := j2.pos (by omega)
        obtain ⟨po, rfl, ho⟩ := i2.pos (by omega)
        obtain ⟨M', g⟩ := mt_loop (w := wn) (by omega) x y n k (l := pls wn hn) (fun q hq => by have := (pls_mem (w := wn) (h := hn) (by omega) (by omega) q).1 hq; omega) (by omega) (c1 := c) (c2 := d) (c3 := e)
          ((ha.same j3 (by simp)).same i3 (by simp)).rd (hb.same i3 (by simp)).rd ho.rd (pls wn hn).length 0 (by omega)
        refine ⟨M', ?_⟩
        simp only [g1, g3, hg.1.2, hg.2.2, c1, c2, decide_true, decide_false, Bool.false_eq_true, if_false, if_true, a1, a2, Option.bind_some, tup2, get0, get1, intOf_int, k1, j1, i1, sliceOf_slice, bne_self_eq_false]
        exact g
  · obtain ⟨M3, i1, i2⟩ := order_none w h hg M
    obtain ⟨M', g⟩ := mt_end x y n k M3
    have z : ¬ ((0 : Int) < Int.ofNat 0) := by decide
    have key : P9_28 LL x y n k w (backI n).1 (backI n).2 (backI n).1 (backI n).2 none 0 0 none 0 0 none 0 0 0 M3 = some (.bool true, M') := by
      rw [P9_28_eq LL L_loop]
      simp only [z, decide_false, Bool.false_eq_true, if_false]
      exact g
    refine ⟨M', ?_⟩
    have hwk := walk_none w h hg M
    have hrk := rwalk_none w h hg M
    by_cases g1 : w ≥ 1
    · by_cases g2 : w ≤ 256
      · by_cases g3 : h ≥ 1
        · have g4 : ¬ h ≤ 256 := by omega
          simp only [g1, g2, g3, g4, decide_true, decide_false, Bool.false_eq_true, if_false, if_true, a1, a2, Option.bind_some, tup2, get0, get1, intOf_int, hwk, hrk, i1, sliceOf_slice, bne_self_eq_false]
          exact key
        · simp only [g1, g2, g3, decide_true, decide_false, Bool.false_eq_true, if_false, if_true, a1, a2, Option.bind_some, tup2, get0, get1, intOf_int, hwk, hrk, i1, sliceOf_slice, bne_self_eq_false]
          exact key
      · simp only [g1, g2, decide_true, decide_false, Bool.false_eq_true, if_false, if_true, a1, a2, Option.bind_some, tup2, get0, get1, intOf_int, hwk, hrk, i1, sliceOf_slice, bne_self_eq_false]
        exact key
    · simp only [g1, decide_false, Bool.false_eq_true, if_false, a1, a2, Option.bind_some, tup2, get0, get1, intOf_int, hwk, hrk, i1, sliceOf_slice, bne_self_eq_false]
      exact key

open Go.ChangeShapes Go.WideShapes Go.ChangeAt Go.RowKit

theorem mtells_main (A : AMem) (vs : List Value) (h : HoldsA A [(false, [.int .i64]), (false, [.int .i64]), (false, [.int .i64]), (false, [.int .i64]), (false, [.int .i64]), (false, [.int .i64])] vs) :
    ∃ A', (lim env).call 9 vs A = some (.bool true, A') := by
  simp only [HoldsA, HoldsV, HoldsL, Holds, Bool.false_eq_true, if_false] at h
  obtain ⟨_, _, rfl, ⟨_, _, e1, ⟨x, rfl, _⟩, rfl⟩, _, _, rfl, ⟨_, _, e2, ⟨y, rfl, _⟩, rfl⟩, _, _, rfl, ⟨_, _, e3, ⟨n, rfl, _⟩, rfl⟩, _, _, rfl, ⟨_, _, e4, ⟨k, rfl, _⟩, rfl⟩, _, _, rfl, ⟨_, _, e5, ⟨w, rfl, _⟩, rfl⟩, _, _, rfl, ⟨_, _, e6, ⟨h, rfl, _⟩, rfl⟩, rfl⟩ := h
  cases e1; cases e2; cases e3; cases e4; cases e5; cases e6
  have := mtells_law x y n k w h A
  rw [LL_lim] at this
  exact this

theorem mortonTells_lifted (os : Os) (started : os.Started) (H : Type) (enc : TypeId × Value → H) :
    ReturnsInHanded {} Try.checked os 9 .any (Rows.mortonTellsSpec.pre6 enc Try.prog Try.f9 Rows.mortonTellsRow.domain false) (Rows.mortonTellsSpec.post enc Try.prog Try.f9 false true false false) :=
  lifted_of_args (C := Try.checked) (E := env) (by kernel_rfl) started (by kernel_rfl) Try.func9
    (ChangeSpec.witness6 (enc := enc) (C := Try.checked) false ⟨#[], #[.int .i64 0, .int .i64 0, .int .i64 0, .int .i64 0, .int .i64 0, .int .i64 0], []⟩ 8 (by kernel_rfl) (by kernel_rfl) (by kernel_rfl) (by kernel_rfl))
    (by kernel_rfl) (by kernel_rfl) (by kernel_rfl : Try.f9.resultTypes = #[4]) (by kernel_rfl) rfl
    (fun ds hd => by
      match ds, hd with
      | [d1, d2, d3, d4, d5, d6], _ => rfl) envOk (by kernel_rfl) (by kernel_rfl) mtells_main

theorem mortonTells_holds : Rows.MortonTellsSaid :=
  OpenClaim.holds_of_wide 9 Try.f9 rfl rfl rfl rfl rfl rfl rfl ⟨rfl, rfl, rfl, rfl, rfl⟩ rfl rfl rfl rfl rfl (by kernel_rfl) Try.func9 (by kernel_rfl)
    (of_decide_eq_true (by kernel_rfl)) (by unfold Func.isWrapper; rw [if_neg (of_decide_eq_false (by kernel_rfl))]; exact ⟨rfl, rfl⟩)
    (fun os started H enc _ => mortonTells_lifted os started H enc)


end Go.Proofs.Ytaepdefnomcllaa
