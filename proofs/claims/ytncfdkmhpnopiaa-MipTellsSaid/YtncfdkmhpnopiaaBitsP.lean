/- Lengths in bits. -/
import Derived.Test.YtncfdkmhpnopiaaEqBits
import Derived.Test.YtncfdkmhpnopiaaAxD
set_option linter.unusedVariables false
set_option linter.unusedSimpArgs false
namespace Go.Proofs.Ytncfdkmhpnopiaa
open Go Go.Ax

def blen (n : Nat) : Nat := if n = 0 then 0 else n.log2 + 1

theorem bind_tab {T : List UInt8} {x : Nat} {K : UInt8 → Res} (hT : (List.range 256).all (fun x => decide (T[x]? = some (UInt8.ofNat (blen x)))) = true) (hx : x < 256) : Option.bind T[x]? K = K (UInt8.ofNat (blen x)) := by
  have := List.all_eq_true.1 hT x (List.mem_range.2 hx)
  rw [of_decide_eq_true this, Option.bind_some]

theorem blen_lt (n : Nat) : n < 2 ^ blen n := by
  unfold blen
  split
  · rename_i h; subst h; decide
  · exact Nat.lt_log2_self

theorem blen_le {n k : Nat} (h : n < 2 ^ k) : blen n ≤ k := by
  unfold blen
  split
  · exact Nat.zero_le _
  · rename_i h0
    have := (Nat.log2_lt h0).2 h
    omega

theorem blen_shift {n k : Nat} (h : 2 ^ k ≤ n) : blen n = blen (n / 2 ^ k) + k := by
  have h0 : n ≠ 0 := by have := Nat.two_pow_pos k; omega
  have h1 : n / 2 ^ k ≠ 0 := by
    have := (Nat.le_div_iff_mul_le (Nat.two_pow_pos k)).2 (by rw [Nat.one_mul]; exact h : 1 * 2 ^ k ≤ n)
    omega
  unfold blen
  rw [if_neg h0, if_neg h1]
  have : n.log2 = (n / 2 ^ k).log2 + k := by
    refine Nat.le_antisymm ?_ ?_
    · have a := Nat.lt_log2_self (n := n / 2 ^ k)
      rw [Nat.div_lt_iff_lt_mul (Nat.two_pow_pos k), ← Nat.pow_add] at a
      have := (Nat.log2_lt h0).2 a
      omega
    · rw [Nat.le_log2 h0, Nat.pow_add]
      exact (Nat.le_div_iff_mul_le (Nat.two_pow_pos k)).1 (Nat.log2_self_le h1)
  omega

theorem u8n {x : Nat} (h : x < 256) : IntKind.wrap .u8 (x : Int) = (x : Int) := by
  simp [IntKind.wrap, IntKind.bits, IntKind.signed]; omega

theorem len26 {x s : Nat} (hx : x < 256) (hs : s ≤ 64) : P36_26 LL (x : Int) (s : Int) = some (.int .i64 ((s + blen x : Nat) : Int), []) := by
  rw [P36_26_eq, u8n hx, if_pos (by omega), Int.toNat_natCast]
  refine (bind_tab ?_ hx).trans ?_
  · kernel_rfl
  · have h1 : blen x ≤ 8 := blen_le hx
    have h2 : (UInt8.ofNat (blen x)).toNat = blen x := by rw [UInt8.toNat_ofNat']; omega
    rw [h2, ofN, w64 (n := (blen x : Int)) (by omega), w64 (by omega)]
    rfl

theorem fdivN (x k : Nat) : Int.fdiv (x : Int) (2 ^ k) = ((x / 2 ^ k : Nat) : Int) := by
  rw [Int.fdiv_eq_ediv_of_nonneg _ (by have := Nat.two_pow_pos k; exact_mod_cast Nat.zero_le _)]
  norm_cast

theorem len18 {x s : Nat} (hx : x < 65536) (hs : s ≤ 48) : P36_18 LL (x : Int) (s : Int) = some (.int .i64 ((s + blen x : Nat) : Int), []) := by
  rw [P36_18_eq]
  by_cases h : 256 ≤ x
  · have : (x : Int) ≥ 256 := by omega
    rw [if_pos (by simpa using this), fdivN, w64 (by omega)]
    have e := len26 (x := x / 2 ^ 8) (s := s + 8) (by omega) (by omega)
    rw [show ((s : Int) + 8) = ((s + 8 : Nat) : Int) from rfl, e, blen_shift (k := 8) h]
    rw [show s + 8 + blen (x / 2 ^ 8) = s + (blen (x / 2 ^ 8) + 8) by omega]
  · rw [if_neg (by simp; omega)]
    exact len26 (by omega) (by omega)

theorem len10 {x s : Nat} (hx : x < 4294967296) (hs : s ≤ 32) : P36_10 LL (x : Int) (s : Int) = some (.int .i64 ((s + blen x : Nat) : Int), []) := by
  rw [P36_10_eq]
  by_cases h : 65536 ≤ x
  · have : (x : Int) ≥ 65536 := by omega
    rw [if_pos (by simpa using this), fdivN, w64 (by omega)]
    have e := len18 (x := x / 2 ^ 16) (s := s + 16) (by omega) (by omega)
    rw [show ((s : Int) + 16) = ((s + 16 : Nat) : Int) from rfl, e, blen_shift (k := 16) h]
    rw [show s + 16 + blen (x / 2 ^ 16) = s + (blen (x / 2 ^ 16) + 16) by omega]
  · rw [if_neg (by simp; omega)]
    exact len18 (by omega) (by omega)

theorem len64_spec {x : Nat} (hx : x < 18446744073709551616) : LL.call 36 [.int .u64 (x : Int)] [] = some (.int .i64 (blen x : Int), []) := by
  rw [L_call36, E36]
  by_cases h : 4294967296 ≤ x
  · have : (x : Int) ≥ 4294967296 := by omega
    rw [if_pos (by simpa using this), fdivN]
    have e := len10 (x := x / 2 ^ 32) (s := 32) (by omega) (by omega)
    rw [show (32 : Int) = ((32 : Nat) : Int) from rfl, e, blen_shift (k := 32) h, Nat.add_comm]
  · rw [if_neg (by simp; omega)]
    have e := len10 (x := x) (s := 0) (by omega) (by omega)
    rw [Nat.zero_add] at e
    exact e

theorem len_spec {x : Nat} (hx : x < 18446744073709551616) : LL.call 27 [.int .u64 (x : Int)] [] = some (.int .i64 (blen x : Int), []) := by
  rw [L_call27, E27]
  simp only [len64_spec hx, Option.bind_some, intOf_int]

end Go.Proofs.Ytncfdkmhpnopiaa
