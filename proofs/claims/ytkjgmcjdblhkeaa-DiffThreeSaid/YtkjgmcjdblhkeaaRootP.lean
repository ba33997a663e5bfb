/- Lengths in bits, and square roots: the program's and the document's. -/
import Derived.Test.YtkjgmcjdblhkeaaEqBits
import Derived.Test.YtkjgmcjdblhkeaaEqDiff
import Derived.Test.YtkjgmcjdblhkeaaEqFit49
import Derived.Test.YtkjgmcjdblhkeaaAxD
import Derived.Test.YtkjgmcjdblhkeaaPic3
set_option linter.unusedVariables false
set_option linter.unusedSimpArgs false
namespace Go.Proofs.Ytkjgmcjdblhkeaa
open Go Go.Ax

def blen (n : Nat) : Nat := if n = 0 then 0 else n.log2 + 1

theorem bind_tab {T : List UInt8} {x : Nat} {K : UInt8 → Res} (hT : (List.range 256).all (fun x => decide (T[x]? = some (UInt8.ofNat (blen x)))) = true) (hx : x < 256) : Option.bind T[x]? K = K (UInt8.ofNat (blen x)) := by
  have := List.all_eq_true.1 hT x (List.mem_range.2 hx)
  rw [of_decide_eq_true this, Option.bind_some]

theorem blen_lt (n : Nat) : n < 2 ^ blen n := by
  unfold blen
  split
  · rename_i h; subst h; decide
  · exact Nat.lt_log2_self

theorem blen_le {n k : Nat} (h : n < 2 ^ k) : blen n ≤ k := by
  unfold blen
  split
  · exact Nat.zero_le _
  · rename_i h0
    have := (Nat.log2_lt h0).2 h
    omega

theorem blen_shift {n k : Nat} (h : 2 ^ k ≤ n) : blen n = blen (n / 2 ^ k) + k := by
  have h0 : n ≠ 0 := by have := Nat.two_pow_pos k; omega
  have h1 : n / 2 ^ k ≠ 0 := by
    have := (Nat.le_div_iff_mul_le (Nat.two_pow_pos k)).2 (by rw [Nat.one_mul]; exact h : 1 * 2 ^ k ≤ n)
    omega
  unfold blen
  rw [if_neg h0, if_neg h1]
  have : n.log2 = (n / 2 ^ k).log2 + k := by
    refine Nat.le_antisymm ?_ ?_
    · have a := Nat.lt_log2_self (n := n / 2 ^ k)
      rw [Nat.div_lt_iff_lt_mul (Nat.two_pow_pos k), ← Nat.pow_add] at a
      have := (Nat.log2_lt h0).2 a
      omega
    · rw [Nat.le_log2 h0, Nat.pow_add]
      exact (Nat.le_div_iff_mul_le (Nat.two_pow_pos k)).1 (Nat.log2_self_le h1)
  omega

theorem u8n {x : Nat} (h : x < 256) : IntKind.wrap .u8 (x : Int) = (x : Int) := by
  simp [IntKind.wrap, IntKind.bits, IntKind.signed]; omega

theorem len26 {x s : Nat} (hx : x < 256) (hs : s ≤ 64) : P29_26 LL (x : Int) (s : Int) = some (.int .i64 ((s + blen x : Nat) : Int), []) := by
  rw [P29_26_eq, u8n hx, if_pos (by omega), Int.toNat_natCast]
  refine (bind_tab ?_ hx).trans ?_
  · kernel_rfl
  · have h1 : blen x ≤ 8 := blen_le hx
    have h2 : (UInt8.ofNat (blen x)).toNat = blen x := by rw [UInt8.toNat_ofNat']; omega
    rw [h2, ofN, w64 (n := (blen x : Int)) (by omega), w64 (by omega)]
    rfl

theorem fdivN (x k : Nat) : Int.fdiv (x : Int) (2 ^ k) = ((x / 2 ^ k : Nat) : Int) := by
  rw [Int.fdiv_eq_ediv_of_nonneg _ (by have := Nat.two_pow_pos k; exact_mod_cast Nat.zero_le _)]
  norm_cast

theorem len18 {x s : Nat} (hx : x < 65536) (hs : s ≤ 48) : P29_18 LL (x : Int) (s : Int) = some (.int .i64 ((s + blen x : Nat) : Int), []) := by
  rw [P29_18_eq]
  by_cases h : 256 ≤ x
  · have : (x : Int) ≥ 256 := by omega
    rw [if_pos (by simpa using this), fdivN, w64 (by omega)]
    have e := len26 (x := x / 2 ^ 8) (s := s + 8) (by omega) (by omega)
    rw [show ((s : Int) + 8) = ((s + 8 : Nat) : Int) from rfl, e, blen_shift (k := 8) h]
    rw [show s + 8 + blen (x / 2 ^ 8) = s + (blen (x / 2 ^ 8) + 8) by omega]
  · rw [if_neg (by simp; omega)]
    exact len26 (by omega) (by omega)

theorem len10 {x s : Nat} (hx : x < 4294967296) (hs : s ≤ 32) : P29_10 LL (x : Int) (s : Int) = some (.int .i64 ((s + blen x : Nat) : Int), []) := by
  rw [P29_10_eq]
  by_cases h : 65536 ≤ x
  · have : (x : Int) ≥ 65536 := by omega
    rw [if_pos (by simpa using this), fdivN, w64 (by omega)]
    have e := len18 (x := x / 2 ^ 16) (s := s + 16) (by omega) (by omega)
    rw [show ((s : Int) + 16) = ((s + 16 : Nat) : Int) from rfl, e, blen_shift (k := 16) h]
    rw [show s + 16 + blen (x / 2 ^ 16) = s + (blen (x / 2 ^ 16) + 16) by omega]
  · rw [if_neg (by simp; omega)]
    exact len18 (by omega) (by omega)

theorem len64_spec {x : Nat} (hx : x < 18446744073709551616) : LL.call 29 [.int .u64 (x : Int)] [] = some (.int .i64 (blen x : Int), []) := by
  rw [L_call29, E29]
  by_cases h : 4294967296 ≤ x
  · have : (x : Int) ≥ 4294967296 := by omega
    rw [if_pos (by simpa using this), fdivN]
    have e := len10 (x := x / 2 ^ 32) (s := 32) (by omega) (by omega)
    rw [show (32 : Int) = ((32 : Nat) : Int) from rfl, e, blen_shift (k := 32) h, Nat.add_comm]
  · rw [if_neg (by simp; omega)]
    have e := len10 (x := x) (s := 0) (by omega) (by omega)
    rw [Nat.zero_add] at e
    exact e

theorem newton_loop {n s : Nat} (hn : n < 1099511627776) (h0 : 0 < n) (hs : IsRoot n s) : ∀ (r : Nat), s ≤ r → r ≤ 2097152 → P24_13 LL (n : Int) (r : Int) = some (.int .i64 (s : Int), [])
  | r, h1, h2 => by
    have hs1 : 1 ≤ s := by
      refine Nat.pos_of_ne_zero fun e => ?_
      have := hs.2; subst e; omega
    rw [P24_13_eq LL L_loop]
    have hr : ¬ ((r : Int) = 0) := by omega
    have hq : n / r ≤ n := Nat.div_le_self n r
    have hge := newton_ge hs.1 (show 0 < r by omega)
    have hend := fun h => newton_end hs (show 0 < r by omega) h1 h
    have e0 : Int.tdiv (n : Int) (r : Int) = ((n / r : Nat) : Int) := (Int.ofNat_tdiv _ _).symm
    rw [if_neg hr, e0]
    generalize n / r = z at hq hge hend ⊢
    have e1 : IntKind.wrap .u64 (z : Int) = (z : Int) := wu64 (by omega)
    have e2 : IntKind.wrap .u64 ((r : Int) + (z : Int)) = ((r + z : Nat) : Int) := by
      rw [wu64 (by omega)]; rfl
    have e3 : IntKind.wrap .u64 (Int.tdiv ((r + z : Nat) : Int) 2) = (((r + z) / 2 : Nat) : Int) := by
      rw [show Int.tdiv ((r + z : Nat) : Int) 2 = (((r + z) / 2 : Nat) : Int) from (Int.ofNat_tdiv _ _).symm]
      exact wu64 (by omega)
    rw [e1, e2, e3]
    by_cases hd : r ≤ (r + z) / 2
    · have : r = s := hend hd
      subst this
      rw [if_pos (by simp only [decide_eq_true_eq, ge_iff_le]; omega), w64 (by omega)]
    · rw [if_neg (by simp only [decide_eq_true_eq, ge_iff_le]; omega)]
      exact newton_loop hn h0 hs ((r + z) / 2) hge (by omega)
termination_by r => r

theorem root_spec {n s : Nat} (hn : n < 1099511627776) (hs : IsRoot n s) : LL.call 24 [.int .u64 (n : Int)] [] = some (.int .i64 (s : Int), []) := by
  rw [L_call24, E24]
  by_cases h0 : n = 0
  · subst h0
    have : s = 0 := by
      refine Nat.eq_zero_of_not_pos fun h => ?_
      have := sq_mono (show 1 ≤ s by omega)
      have := hs.1; omega
    subst this
    rfl
  · have hb : ((n : Int) == 0) = false := by simp [h0]
    have hle : blen n ≤ 40 := blen_le (by omega)
    rw [hb]
    simp only [Bool.false_eq_true, if_false, len64_spec (show n < 18446744073709551616 by omega), Option.bind_some, intOf_int]
    have e1 : IntKind.wrap .i64 ((blen n : Int) + 1) = ((blen n + 1 : Nat) : Int) := by rw [w64 (by omega)]; rfl
    have e2 : IntKind.wrap .i64 (Int.tdiv ((blen n + 1 : Nat) : Int) 2) = (((blen n + 1) / 2 : Nat) : Int) := by
      rw [show Int.tdiv ((blen n + 1 : Nat) : Int) 2 = (((blen n + 1) / 2 : Nat) : Int) from (Int.ofNat_tdiv _ _).symm]
      exact w64 (by omega)
    generalize hk : (blen n + 1) / 2 = k at e2
    have hk20 : k ≤ 20 := by omega
    have hp : 2 ^ k ≤ 2 ^ 20 := Nat.pow_le_pow_right (by omega) hk20
    have hp0 := Nat.two_pow_pos k
    have e3 : IntKind.wrap .u64 (1 * 2 ^ (min k (IntKind.bits .u64))) = ((2 ^ k : Nat) : Int) := by
      rw [show min k (IntKind.bits .u64) = k from Nat.min_eq_left (show k ≤ 64 by omega), Int.one_mul, show ((2 : Int) ^ k) = ((2 ^ k : Nat) : Int) by norm_cast]
      exact wu64 (by omega)
    rw [e1, e2, if_neg (by omega), Int.toNat_natCast, e3]
    refine newton_loop hn (by omega) hs (2 ^ k) ?_ (by omega)
    have hlt := blen_lt n
    have hle2 : 2 ^ blen n ≤ 2 ^ k * 2 ^ k := by
      rw [← Nat.pow_add]
      exact Nat.pow_le_pow_right (by omega) (by omega)
    exact hs.le (by omega)

theorem rt_loop {n : Nat} (hn : n < 18446744073709551616) : ∀ (i r : Nat), i ≤ 32 → r + 2 ^ i ≤ 4294967296 → P25_8 LL (n : Int) (r : Int) ((i : Int) - 1) = some (.int .i64 (rt n i r : Int), [])
  | 0, r, _, h => by
    rw [P25_8_eq LL L_loop]
    have h0 : ¬ (((0 : Nat) : Int) - 1 ≥ 0) := by omega
    simp only [h0, decide_false, Bool.false_eq_true, if_false, P25_25_eq, rt]
    rw [w64 (by omega)]
  | i + 1, r, hi, h => by
    rw [P25_8_eq LL L_loop]
    have e : r + 2 ^ (i + 1) = r + 2 ^ i + 2 ^ i := by rw [Nat.pow_succ]; omega
    have hp := Nat.two_pow_pos i
    have e0 : ((i + 1 : Nat) : Int) - 1 = (i : Int) := by omega
    rw [e0]
    have h0 : (i : Int) ≥ 0 := by omega
    have h1 : ¬ ((i : Int) < 0) := by omega
    have e3 : IntKind.wrap .u64 (1 * 2 ^ (min i (IntKind.bits .u64))) = ((2 ^ i : Nat) : Int) := by
      rw [show min i (IntKind.bits .u64) = i from Nat.min_eq_left (show i ≤ 64 by omega), Int.one_mul, show ((2 : Int) ^ i) = ((2 ^ i : Nat) : Int) by norm_cast]
      exact wu64 (by omega)
    have e4 : IntKind.wrap .u64 ((r : Int) + ((2 ^ i : Nat) : Int)) = ((r + 2 ^ i : Nat) : Int) := by
      rw [wu64 (by omega)]; norm_cast
    have hm : (r + 2 ^ i) * (r + 2 ^ i) ≤ 4294967295 * 4294967295 := sq_mono (by omega)
    have e5 : IntKind.wrap .u64 (((r + 2 ^ i : Nat) : Int) * ((r + 2 ^ i : Nat) : Int)) = (((r + 2 ^ i) * (r + 2 ^ i) : Nat) : Int) := by
      rw [show ((r + 2 ^ i : Nat) : Int) * ((r + 2 ^ i : Nat) : Int) = (((r + 2 ^ i) * (r + 2 ^ i) : Nat) : Int) by norm_cast]
      exact wu64 (by omega)
    have e6 : IntKind.wrap .i64 ((i : Int) - 1) = (i : Int) - 1 := w64 (by omega)
    simp only [h0, h1, decide_true, if_true, if_false, Int.toNat_natCast, e3, e4, e5, P25_24_eq, e6, rt]
    by_cases hc : (r + 2 ^ i) * (r + 2 ^ i) ≤ n
    · rw [if_pos (by simp only [decide_eq_true_eq]; omega), if_pos hc]
      exact rt_loop hn i _ (by omega) (by omega)
    · rw [if_neg (by simp only [decide_eq_true_eq]; omega), if_neg hc]
      exact rt_loop hn i _ (by omega) (by omega)

theorem root01_spec {n s : Nat} (hn : n < 18446744073709551616) (hs : IsRoot n s) : LL.call 25 [.int .u64 (n : Int)] [] = some (.int .i64 (s : Int), []) := by
  rw [L_call25, E25]
  have := rt_loop hn 32 0 (by omega) (by omega)
  rw [show (((32 : Nat) : Int) - 1) = 31 from rfl] at this
  rw [show ((0 : Nat) : Int) = 0 from rfl] at this
  rw [this, (rt_root 32 0 (by omega) (by omega)).uniq hs]

end Go.Proofs.Ytkjgmcjdblhkeaa
