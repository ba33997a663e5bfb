/- What the functions on places' numbers answer. -/
import Derived.Test.YtaepdefnomcllaaEqMorton
import Derived.Test.YtaepdefnomcllaaAxBits
set_option linter.unusedVariables false
set_option linter.unusedSimpArgs false
namespace Go.Proofs.Ytaepdefnomcllaa
open Go Go.Ax

theorem ofInt_nat {a : Nat} (h : a < 9223372036854775808) : (BitVec.ofInt (IntKind.bits .i64) (a : Int)).toNat = a := by
  show (BitVec.ofInt 64 (a : Int)).toNat = a
  rw [BitVec.ofInt_natCast, BitVec.toNat_ofNat]
  exact Nat.mod_eq_of_lt (by omega)

theorem bor_nat {a b : Nat} (ha : a < 9223372036854775808) (hb : b < 9223372036854775808) :
    IntKind.wrap .i64 (Int.ofNat (BitVec.toNat (BitVec.ofInt (IntKind.bits .i64) (a : Int) ||| BitVec.ofInt (IntKind.bits .i64) (b : Int)))) = ((a ||| b : Nat) : Int) := by
  rw [BitVec.toNat_or, ofInt_nat ha, ofInt_nat hb, ofN]
  have : a ||| b < 2 ^ 63 := Nat.or_lt_two_pow (by omega) (by omega)
  exact w64 (by omega)

theorem band_nat {a b : Nat} (ha : a < 9223372036854775808) (hb : b < 9223372036854775808) :
    IntKind.wrap .i64 (Int.ofNat (BitVec.toNat (BitVec.ofInt (IntKind.bits .i64) (a : Int) &&& BitVec.ofInt (IntKind.bits .i64) (b : Int)))) = ((a &&& b : Nat) : Int) := by
  rw [BitVec.toNat_and, ofInt_nat ha, ofInt_nat hb, ofN]
  have : a &&& b ≤ b := Nat.and_le_right
  exact w64 (by omega)

theorem shl_nat {a s : Nat} (h : a * 2 ^ s < 9223372036854775808) : IntKind.wrap .i64 ((a : Int) * 2 ^ s) = ((a <<< s : Nat) : Int) := by
  rw [Nat.shiftLeft_eq]
  have e : (a : Int) * 2 ^ s = ((a * 2 ^ s : Nat) : Int) := by simp
  rw [e]; exact w64 (by omega)

theorem shr_nat (a s : Nat) : Int.fdiv (a : Int) (2 ^ s) = ((a >>> s : Nat) : Int) := by
  rw [Nat.shiftRight_eq_div_pow, Int.fdiv_eq_ediv_of_nonneg _ (by exact Int.le_of_lt (Int.pow_pos (by decide)))]
  simp

theorem stageL {a s m : Nat} (ha : a * 2 ^ s < 9223372036854775808) (hm : m < 4294967296) :
    IntKind.wrap .i64 (Int.ofNat (BitVec.toNat (BitVec.ofInt (IntKind.bits .i64) (IntKind.wrap .i64 (Int.ofNat (BitVec.toNat (BitVec.ofInt (IntKind.bits .i64) (a : Int) ||| BitVec.ofInt (IntKind.bits .i64) (IntKind.wrap .i64 ((a : Int) * 2 ^ s)))))) &&& BitVec.ofInt (IntKind.bits .i64) (m : Int)))) = ((stL a s m : Nat) : Int) := by
  have h1 : a ≤ a * 2 ^ s := Nat.le_mul_of_pos_right _ (Nat.pow_pos (by decide))
  rw [shl_nat ha, bor_nat (by omega) (by rw [Nat.shiftLeft_eq]; exact ha), band_nat (by
    have : a ||| a <<< s < 2 ^ 63 := Nat.or_lt_two_pow (by omega) (by rw [Nat.shiftLeft_eq]; omega)
    omega) (by omega)]
  rfl

theorem stageR {a s m : Nat} (ha : a < 9223372036854775808) (hm : m < 4294967296) :
    IntKind.wrap .i64 (Int.ofNat (BitVec.toNat (BitVec.ofInt (IntKind.bits .i64) (IntKind.wrap .i64 (Int.ofNat (BitVec.toNat (BitVec.ofInt (IntKind.bits .i64) (a : Int) ||| BitVec.ofInt (IntKind.bits .i64) (Int.fdiv (a : Int) (2 ^ s)))))) &&& BitVec.ofInt (IntKind.bits .i64) (m : Int)))) = ((stR a s m : Nat) : Int) := by
  have h1 : a >>> s ≤ a := by rw [Nat.shiftRight_eq_div_pow]; exact Nat.div_le_self _ _
  rw [shr_nat, bor_nat (by omega) (by omega), band_nat (by
    have : a ||| a >>> s < 2 ^ 63 := Nat.or_lt_two_pow (by omega) (by omega)
    omega) (by omega)]
  rfl

theorem stL_le (a s m : Nat) : stL a s m ≤ m := Nat.and_le_right
theorem stR_le (a s m : Nat) : stR a s m ≤ m := Nat.and_le_right

theorem spread_spec {n : Nat} (h : n < 65536) : ∃ M, LL.call 54 [.int .i64 n] [] = some (.int .i64 (spr n), M) := by
  rw [L_call54, E54]
  have e1 := stageL (a := n) (s := 8) (m := 0x00ff00ff) (by omega) (by decide)
  have b1 := stL_le n 8 0x00ff00ff
  have e2 := stageL (a := stL n 8 0x00ff00ff) (s := 4) (m := 0x0f0f0f0f) (by omega) (by decide)
  have b2 := stL_le (stL n 8 0x00ff00ff) 4 0x0f0f0f0f
  have e3 := stageL (a := stL (stL n 8 0x00ff00ff) 4 0x0f0f0f0f) (s := 2) (m := 0x33333333) (by omega) (by decide)
  have b3 := stL_le (stL (stL n 8 0x00ff00ff) 4 0x0f0f0f0f) 2 0x33333333
  have e4 := stageL (a := stL (stL (stL n 8 0x00ff00ff) 4 0x0f0f0f0f) 2 0x33333333) (s := 1) (m := 0x55555555) (by omega) (by decide)
  rw [spread_spr h] at e4
  rw [← e4, ← e3, ← e2, ← e1]
  exact ⟨_, rfl⟩

theorem gathered_spec {n : Nat} (h : n < 4294967296) : ∃ M, LL.call 55 [.int .i64 n] [] = some (.int .i64 (gat n), M) := by
  rw [L_call55, E55]
  have e0 := band_nat (a := n) (b := 0x55555555) (by omega) (by decide)
  have b0 : n &&& 0x55555555 ≤ 0x55555555 := Nat.and_le_right
  have e1 := stageR (a := n &&& 0x55555555) (s := 1) (m := 0x33333333) (by omega) (by decide)
  have b1 := stR_le (n &&& 0x55555555) 1 0x33333333
  have e2 := stageR (a := stR (n &&& 0x55555555) 1 0x33333333) (s := 2) (m := 0x0f0f0f0f) (by omega) (by decide)
  have b2 := stR_le (stR (n &&& 0x55555555) 1 0x33333333) 2 0x0f0f0f0f
  have e3 := stageR (a := stR (stR (n &&& 0x55555555) 1 0x33333333) 2 0x0f0f0f0f) (s := 4) (m := 0x00ff00ff) (by omega) (by decide)
  have b3 := stR_le (stR (stR (n &&& 0x55555555) 1 0x33333333) 2 0x0f0f0f0f) 4 0x00ff00ff
  have e4 := stageR (a := stR (stR (stR (n &&& 0x55555555) 1 0x33333333) 2 0x0f0f0f0f) 4 0x00ff00ff) (s := 8) (m := 0xffff) (by omega) (by decide)
  rw [gathered_gat h] at e4
  rw [← e4, ← e3, ← e2, ← e1, ← e0]
  exact ⟨_, rfl⟩

/-- Do all lie within? -/
theorem within_loop (most : Int) {M : AMem} {a n c : Nat} {l : List Int} (hl : l.length = n) (hn : n ≤ 1000) (ha : Rd M a (ints .i64 l)) : ∀ (d i : Nat), i + d = n →
    P53_6 LL most (some ⟨a, 0, none⟩) n c n i M = some (.bool (decide (∀ x ∈ l.drop i, 0 ≤ x ∧ x < most)), M) := by
  intro d
  induction d with
  | zero =>
    intro i hi
    obtain rfl : i = n := by omega
    rw [P53_6_eq LL L_loop]
    have : l.drop i = [] := List.drop_eq_nil_of_le (by omega)
    simp [this, P53_25_eq]
  | succ d ih =>
    intro i hi
    rw [P53_6_eq LL L_loop]
    have hlt : (i : Int) < (n : Int) := by omega
    have h0 : (0 : Int) ≤ (i : Int) ∧ (i : Int) < Int.ofNat n := ⟨by omega, hlt⟩
    have hw : IntKind.wrap .i64 ((i : Int) + 1) = ((i + 1 : Nat) : Int) := by rw [w64 (by omega)]; rfl
    have hd : l.drop i = l.getD i 0 :: l.drop (i + 1) := by rw [List.drop_eq_getElem_cons (by omega), List.getD_eq_getElem?_getD, List.getElem?_eq_getElem (by omega)]; rfl
    simp only [hlt, h0, and_self, decide_true, if_true, Nat.zero_add, Nat.mul_one, Int.toNat_natCast, ha.ld, ints_nat (show i < l.length by omega), intOf_int, Option.bind_some]
    rw [hd]
    generalize l.getD i 0 = x
    by_cases c1 : x < 0
    · simp only [c1, decide_true, if_true]
      congr 3; symm
      exact decide_eq_false fun h => by have := h x (by simp); omega
    · by_cases c2 : x ≥ most
      · simp only [c1, c2, decide_true, decide_false, Bool.false_eq_true, if_true, if_false]
        congr 3; symm
        exact decide_eq_false fun h => by have := h x (by simp); omega
      · simp only [c1, c2, decide_false, Bool.false_eq_true, if_false, P53_24_eq, hw]
        rw [ih (i + 1) (by omega)]
        congr 3
        simp only [List.mem_cons, forall_eq_or_imp, decide_eq_decide]
        exact ⟨fun h => ⟨by omega, h⟩, fun h => h.2⟩

theorem within_spec (most : Int) {M : AMem} {a n c : Nat} {l : List Int} (hl : l.length = n) (hn : n ≤ 1000) (ha : Rd M a (ints .i64 l)) :
    LL.call 53 [.int .i64 most, .slice (some ⟨a, 0, none⟩) n c] M = some (.bool (decide (∀ x ∈ l, 0 ≤ x ∧ x < most)), M) := by
  rw [L_call53, E53]
  have := within_loop most (c := c) hl hn ha n 0 (by omega)
  simpa using this

def inB (x y : Int) : Prop := (0 ≤ x ∧ x < 65536) ∧ (0 ≤ y ∧ y < 65536)
instance (x y : Int) : Decidable (inB x y) := by unfold inB; infer_instance

def ofI (x y : Int) : Int := if inB x y then (mor x.toNat y.toNat : Nat) else -1

theorem mof_spec (x y : Int) : ∃ M, LL.call 39 [.int .i64 x, .int .i64 y] [] = some (.int .i64 (ofI x y), M) := by
  rw [L_call39, E39]
  have h1 := within_spec 65536 (M := [AObj.cells [.int .i64 x, .int .i64 y] ⟨false, 0⟩]) (a := 0) (c := 1) (l := [x, y]) rfl (by simp) ⟨_, rfl⟩
  simp only [List.length_cons, List.length_nil, Nat.zero_add, Nat.reduceAdd] at h1
  have e : decide (∀ z ∈ [x, y], 0 ≤ z ∧ z < 65536) = decide (inB x y) := decide_eq_decide.2 (by unfold inB; simp)
  rw [e] at h1
  unfold ofI
  by_cases h : inB x y
  · obtain ⟨_, h2⟩ := spread_spec (n := x.toNat) (by have := h.1; omega)
    obtain ⟨_, h3⟩ := spread_spec (n := y.toNat) (by have := h.2; omega)
    have hx : ((x.toNat : Nat) : Int) = x := by have := h.1; omega
    have hy : ((y.toNat : Nat) : Int) = y := by have := h.2; omega
    rw [hx] at h2; rw [hy] at h3
    have b1 := spr_le x.toNat (by have := h.1; omega)
    have b2 := spr_le y.toNat (by have := h.2; omega)
    have h4 := shl_nat (a := spr y.toNat) (s := 1) (by omega)
    have h5 := bor_nat (a := spr x.toNat) (b := spr y.toNat <<< 1) (by omega) (by rw [Nat.shiftLeft_eq]; omega)
    rw [mor_or] at h5
    simp only [h1, h, decide_true, Option.bind_some, boolOf_bool, Bool.not_true, Bool.false_eq_true, if_false, h2, h3, intOf_int, h4, h5, if_true]
    exact ⟨_, rfl⟩
  · simp only [h1, h, decide_false, Option.bind_some, boolOf_bool, Bool.not_false, if_true, if_false]
    exact ⟨_, rfl⟩

def backI (n : Int) : Int × Int := if 0 ≤ n ∧ n < 4294967296 then ((gat n.toNat : Nat), (gat (n.toNat / 2) : Nat)) else (-1, -1)

theorem mback_spec (n : Int) : ∃ M, LL.call 40 [.int .i64 n] [] = some (.tuple #[.int .i64 (backI n).1, .int .i64 (backI n).2], M) := by
  rw [L_call40, E40]
  have h1 := within_spec 4294967296 (M := [AObj.cells [.int .i64 n] ⟨false, 0⟩]) (a := 0) (c := 1) (l := [n]) rfl (by simp) ⟨_, rfl⟩
  simp only [List.length_cons, List.length_nil, Nat.zero_add, List.mem_singleton, forall_eq] at h1
  unfold backI
  by_cases h : 0 ≤ n ∧ n < 4294967296
  · obtain ⟨_, h2⟩ := gathered_spec (n := n.toNat) (by omega)
    obtain ⟨_, h3⟩ := gathered_spec (n := n.toNat / 2) (by omega)
    have hx : ((n.toNat : Nat) : Int) = n := by omega
    rw [hx] at h2
    have h4 : Int.fdiv n (2 ^ 1) = ((n.toNat / 2 : Nat) : Int) := by
      have := shr_nat n.toNat 1
      rw [hx, Nat.shiftRight_eq_div_pow] at this
      simpa using this
    simp only [h1, h, and_self, decide_true, Option.bind_some, boolOf_bool, Bool.not_true, Bool.false_eq_true, if_false, h2, h3, intOf_int, h4, if_true]
    exact ⟨_, rfl⟩
  · simp only [h1, h, decide_false, Option.bind_some, boolOf_bool, Bool.not_false, if_true, if_false]
    exact ⟨_, rfl⟩

def tileI (n k : Int) : Int := if (0 ≤ n ∧ n < 4294967296) ∧ (0 ≤ k ∧ k < 17) then ((n.toNat / 4 ^ k.toNat : Nat) : Int) else -1

theorem mtile_spec (n k : Int) : ∃ M, LL.call 41 [.int .i64 n, .int .i64 k] [] = some (.int .i64 (tileI n k), M) := by
  rw [L_call41, E41]
  have h1 := within_spec 4294967296 (M := [AObj.cells [.int .i64 n] ⟨false, 0⟩]) (a := 0) (c := 1) (l := [n]) rfl (by simp) ⟨_, rfl⟩
  have h2 := within_spec 17 (M := [AObj.cells [.int .i64 n] ⟨false, 0⟩] ++ [AObj.cells [.int .i64 k] ⟨false, 0⟩]) (a := 1) (c := 1) (l := [k]) rfl (by simp) ⟨_, rfl⟩
  simp only [List.length_cons, List.length_nil, Nat.zero_add, List.mem_singleton, forall_eq] at h1 h2
  unfold tileI
  by_cases c1 : 0 ≤ n ∧ n < 4294967296
  · by_cases c2 : 0 ≤ k ∧ k < 17
    · have hw : IntKind.wrap .i64 (2 * k) = 2 * k := w64 (by omega)
      have hn : ¬ 2 * k < 0 := by omega
      have hm : min (2 * k).toNat (IntKind.bits .i64) = 2 * k.toNat := by show min _ 64 = _; omega
      have hx : ((n.toNat : Nat) : Int) = n := by omega
      have h4 := shr_nat n.toNat (2 * k.toNat)
      rw [hx, Nat.shiftRight_eq_div_pow, Nat.pow_mul] at h4
      simp only [h1, h2, c1, c2, and_self, decide_true, Option.bind_some, boolOf_bool, Bool.not_true, Bool.false_eq_true, if_false, if_true, List.length_cons, List.length_nil, Nat.zero_add, hw, hn, hm, h4]
      exact ⟨_, rfl⟩
    · simp only [h1, h2, c1, c2, and_self, and_false, decide_true, decide_false, Option.bind_some, boolOf_bool, Bool.not_true, Bool.not_false, Bool.false_eq_true, if_false, if_true, List.length_cons, List.length_nil, Nat.zero_add]
      exact ⟨_, rfl⟩
  · simp only [h1, c1, false_and, decide_false, Option.bind_some, boolOf_bool, Bool.not_false, if_true, if_false]
    exact ⟨_, rfl⟩

end Go.Proofs.Ytaepdefnomcllaa
