/- Pictures in blocks; what the laws call. -/
import Derived.Test.YtkjgmcjdblhkeaaDiffP3
import Derived.Test.YtkjgmcjdblhkeaaRootP
import Derived.Test.YtkjgmcjdblhkeaaEqLaw49
set_option linter.unusedVariables false
set_option linter.unusedSimpArgs false
namespace Go.Proofs.Ytkjgmcjdblhkeaa
open Go Go.Ax

/-- A picture that lies in a block. -/
structure IsPic (M : AMem) (b : Nat) (W H : Int) (p : Option Addr) (c : Nat) (l : List Px) : Prop where
  hd : Rd M b [.int .i64 W, .int .i64 H, .slice p l.length c]
  px : RdL M encP p l.length l

theorem IsPic.st {M M' : AMem} {b : Nat} {W H : Int} {p : Option Addr} {c : Nat} {l : List Px} (h : IsPic M b W H p c l) (s : Same M M' []) : IsPic M' b W H p c l := ⟨h.hd.same s (by simp), h.px.same s (by simp)⟩
theorem IsPic.lt {M : AMem} {b : Nat} {W H : Int} {p : Option Addr} {c : Nat} {l : List Px} (h : IsPic M b W H p c l) : b < M.length := h.hd.lt

theorem rdl_of {M : AMem} {a : Nat} {l : List Px} (h : Cells M a (l.flatMap encP)) : RdL M encP (some ⟨a, 0, none⟩) l.length l := ⟨rfl, fun _ => ⟨a, rfl, h.rd⟩⟩

theorem of49_spec (W H : Int) (p : Option Addr) (n c : Nat) (M : AMem) : ∃ M', LL.call 7 [picV W H p n c] M = some (picV W H p n c, M') ∧ Same M M' [] := by
  rw [L_call7]
  unfold picV
  rw [E7]
  have g0 := cells_new M [.int .i64 W, .int .i64 H, .slice p n c] 0
  have s0 := same_app M [AObj.cells [.int .i64 W, .int .i64 H, .slice p n c] ⟨false, 0⟩]
  generalize hM0 : M ++ [AObj.cells [.int .i64 W, .int .i64 H, .slice p n c] ⟨false, 0⟩] = M0 at g0 s0
  obtain ⟨M1, w1, w2, w3, w4⟩ := wr_new M0 [.int .i64 0, .int .i64 0, .slice none 0 0] [.int .i64 W, .int .i64 H, .slice p n c] 0 rfl
  have s1 := same_app M0 [AObj.cells [.int .i64 0, .int .i64 0, .slice none 0 0] ⟨false, 0⟩]
  obtain ⟨a0, a1, a2⟩ := picV_ld (g0.same s1 (by simp)).rd
  obtain ⟨b0, b1, b2⟩ := picV_ld w2.rd
  refine ⟨M1, ?_, (s0.trans w3).mono (by simp)⟩
  simp only [a0, a1, a2, b0, b1, b2, w1, intOf_int, sliceOf_slice, Option.bind_some]

theorem back49_spec (W H : Int) (p : Option Addr) (n c : Nat) (M : AMem) : ∃ M', LL.call 16 [picV W H p n c] M = some (picV W H p n c, M') ∧ Same M M' [] := by
  rw [L_call16]
  unfold picV
  rw [E16]
  have g0 := cells_new M [.int .i64 W, .int .i64 H, .slice p n c] 0
  have s0 := same_app M [AObj.cells [.int .i64 W, .int .i64 H, .slice p n c] ⟨false, 0⟩]
  generalize hM0 : M ++ [AObj.cells [.int .i64 W, .int .i64 H, .slice p n c] ⟨false, 0⟩] = M0 at g0 s0
  obtain ⟨M1, w1, w2, w3, w4⟩ := wr_new M0 [.int .i64 0, .int .i64 0, .slice none 0 0] [.int .i64 W, .int .i64 H, .slice p n c] 0 rfl
  have s1 := same_app M0 [AObj.cells [.int .i64 0, .int .i64 0, .slice none 0 0] ⟨false, 0⟩]
  obtain ⟨a0, a1, a2⟩ := picV_ld (g0.same s1 (by simp)).rd
  obtain ⟨b0, b1, b2⟩ := picV_ld w2.rd
  refine ⟨M1, ?_, (s0.trans w3).mono (by simp)⟩
  simp only [a0, a1, a2, b0, b1, b2, w1, intOf_int, sliceOf_slice, Option.bind_some]

theorem fit49_spec {Wa Ha Wb Hb : Int} {p q : Option Addr} {c d : Nat} {la lb : List Px} (hla : la.length ≤ 9223372036854775807) (hlb : lb.length ≤ 9223372036854775807) {M : AMem} (hp : RdL M encP p la.length la) (hq : RdL M encP q lb.length lb) :
    ∃ M', LL.call 19 [picV Wa Ha p la.length c, picV Wb Hb q lb.length d] M = some (.bool (decide (Fit2 Wa Ha Wb Hb la lb)), M') ∧ Same M M' [] := by
  rw [L_call19]
  unfold picV
  rw [E19]
  have g0 := cells_new M [.int .i64 Wa, .int .i64 Ha, .slice p la.length c] 0
  have s0 := same_app M [AObj.cells [.int .i64 Wa, .int .i64 Ha, .slice p la.length c] ⟨false, 0⟩]
  generalize hM0 : M ++ [AObj.cells [.int .i64 Wa, .int .i64 Ha, .slice p la.length c] ⟨false, 0⟩] = M0 at g0 s0
  have g1 := cells_new M0 [.int .i64 Wb, .int .i64 Hb, .slice q lb.length d] 0
  have s1 := same_app M0 [AObj.cells [.int .i64 Wb, .int .i64 Hb, .slice q lb.length d] ⟨false, 0⟩]
  generalize hM1 : M0 ++ [AObj.cells [.int .i64 Wb, .int .i64 Hb, .slice q lb.length d] ⟨false, 0⟩] = M1 at g1 s1
  have g0' := g0.same s1 (by simp)
  have hs : Same M M1 [] := (s0.trans s1).mono (by simp)
  obtain ⟨M2, e2, s2⟩ := right41_spec (W := Wa) (H := Ha) (c := c) hla (hp.same hs (by simp))
  have hs2 : Same M M2 [] := (hs.trans s2).mono (by simp)
  obtain ⟨M3, e3, s3⟩ := right41_spec (W := Wb) (H := Hb) (c := d) hlb (hq.same hs2 (by simp))
  have hs3 : Same M M3 [] := (hs2.trans s3).mono (by simp)
  have g12 := g1.same s2 (by simp)
  have g03 := (g0'.same s2 (by simp)).same s3 (by simp)
  have g13 := g12.same s3 (by simp)
  unfold picV at e2 e3
  obtain ⟨a0, a1, a2⟩ := picV_ld g0'.rd
  obtain ⟨b0, b1, b2⟩ := picV_ld g12.rd
  obtain ⟨c0, c1, _⟩ := picV_ld g03.rd
  obtain ⟨d0, d1, _⟩ := picV_ld g13.rd
  simp only [a0, a1, a2, b0, b1, b2, intOf_int, sliceOf_slice, Option.bind_some, e2, boolOf_bool, e3, c0, c1, d0, d1]
  by_cases h1 : PFit Wa Ha la
  · by_cases h2 : PFit Wb Hb lb
    · refine ⟨M3, ?_, hs3⟩
      simp only [h1, h2, decide_true, if_true]
      by_cases h3 : Wa = Wb
      · by_cases h4 : Ha = Hb
        · simp [h3, h4, Fit2, h2]
          rw [← h3, ← h4]; exact h1
        · simp [h3, h4, Fit2]
      · simp [h3, Fit2]
    · refine ⟨M3, ?_, hs3⟩
      simp [h1, h2, Fit2]
  · refine ⟨M2, ?_, hs2⟩
    simp [h1, Fit2]

theorem drootE (n m a q k : Int) : ∃ M' r, LL.call 17 [.agg #[.int .i64 n, .int .i64 m, .int .i64 a, .int .i64 q], .int .i64 k] [] = some (.int .i64 r, M') ∧
    (¬ (0 ≤ q ∧ q ≤ 1099511627776 ∧ 1 ≤ k ∧ k ≤ 65536) → r = 0) ∧ (0 ≤ q ∧ q ≤ 1099511627776 ∧ 1 ≤ k ∧ k ≤ 65536 → ∃ s : Nat, r = s ∧ IsRoot (q / (3 * k)).toNat s) := by
  rw [L_call17, E17]
  by_cases h1 : q < 0
  · exact ⟨_, 0, by simp only [h1, decide_true, if_true]; rfl, fun _ => rfl, fun h => absurd h.1 (by omega)⟩
  by_cases h2 : q > 1099511627776
  · exact ⟨_, 0, by simp only [h1, h2, decide_true, decide_false, Bool.false_eq_true, if_true, if_false]; rfl, fun _ => rfl, fun h => absurd h.2.1 (by omega)⟩
  by_cases h3 : k < 1
  · exact ⟨_, 0, by simp only [h1, h2, h3, decide_true, decide_false, Bool.false_eq_true, if_true, if_false]; rfl, fun _ => rfl, fun h => absurd h.2.2.1 (by omega)⟩
  by_cases h4 : k > 65536
  · exact ⟨_, 0, by simp only [h1, h2, h3, h4, decide_true, decide_false, Bool.false_eq_true, if_true, if_false]; rfl, fun _ => rfl, fun h => absurd h.2.2.2 (by omega)⟩
  have e1 : IntKind.wrap .i64 (3 * k) = 3 * k := w64 (by omega)
  have hq0 : 0 ≤ q / (3 * k) := Int.ediv_nonneg (by omega) (by omega)
  have hq1 : q / (3 * k) ≤ q := Int.ediv_le_self _ (by omega)
  have hq3 : q / (3 * k) < 1099511627776 := by
    refine Int.ediv_lt_of_lt_mul (by omega) ?_
    omega
  have e2 : Int.tdiv q (3 * k) = q / (3 * k) := Int.tdiv_eq_ediv_of_nonneg (by omega)
  obtain ⟨s, hs⟩ := root_ex (q / (3 * k)).toNat
  have hr := root_spec (n := (q / (3 * k)).toNat) (by omega) hs
  have ht : ((q / (3 * k)).toNat : Int) = q / (3 * k) := Int.toNat_of_nonneg hq0
  rw [ht] at hr
  refine ⟨[AObj.cells [.int .i64 n, .int .i64 m, .int .i64 a, .int .i64 q] ⟨false, 0⟩], s, ?_, fun h => absurd ⟨by omega, by omega, by omega, by omega⟩ h, fun _ => ⟨s, rfl, hs⟩⟩
  have e3 : IntKind.wrap .i64 (q / (3 * k)) = q / (3 * k) := w64 (by omega)
  have e4 : IntKind.wrap .u64 (q / (3 * k)) = q / (3 * k) := wu64 (by omega)
  simp only [h1, h2, h3, h4, decide_false, Bool.false_eq_true, if_false, e1, show ¬ (3 * k = 0) by omega, e2, e3, e4, hr, Option.bind_some, intOf_int]

theorem div01_spec {x y : Int} (hx : 0 ≤ x ∧ x ≤ 9223372036854775807) (hy : 1 ≤ y) : LL.call 23 [.int .i64 x, .int .i64 y] [] = some (.int .i64 (x / y), []) := by
  rw [L_call23, E23]
  have h1 : ¬ y < 1 := by omega
  have h2 : ¬ y = 0 := by omega
  have h3 : ¬ x < 0 := by omega
  have e : Int.tdiv x y = x / y := Int.tdiv_eq_ediv_of_nonneg hx.1
  have l0 : 0 ≤ x / y := Int.ediv_nonneg hx.1 (by omega)
  have l1 : x / y ≤ x := Int.ediv_le_self _ hx.1
  simp only [h1, h2, h3, decide_false, Bool.false_eq_true, if_false, e, w64 (show -9223372036854775808 ≤ x / y ∧ x / y ≤ 9223372036854775807 by omega), P23_18_eq]

theorem rrootE (n m a q k : Int) (hq : -9223372036854775808 ≤ q ∧ q ≤ 9223372036854775807) : ∃ M' r, LL.call 18 [.agg #[.int .i64 n, .int .i64 m, .int .i64 a, .int .i64 q], .int .i64 k] [] = some (.int .i64 r, M') ∧
    (¬ (0 ≤ q ∧ q ≤ 1099511627776 ∧ 1 ≤ k ∧ k ≤ 65536) → r = 0) ∧ (0 ≤ q ∧ q ≤ 1099511627776 ∧ 1 ≤ k ∧ k ≤ 65536 → ∃ s : Nat, r = s ∧ IsRoot (q / (3 * k)).toNat s) := by
  rw [L_call18, E18]
  by_cases h1 : q < 0
  · exact ⟨_, 0, by simp only [h1, decide_true, if_true]; rfl, fun _ => rfl, fun h => absurd h.1 (by omega)⟩
  by_cases h2 : q > 1099511627776
  · exact ⟨_, 0, by simp only [h1, h2, decide_true, decide_false, Bool.false_eq_true, if_true, if_false]; rfl, fun _ => rfl, fun h => absurd h.2.1 (by omega)⟩
  by_cases h3 : k < 1
  · exact ⟨_, 0, by simp only [h1, h2, h3, decide_true, decide_false, Bool.false_eq_true, if_true, if_false]; rfl, fun _ => rfl, fun h => absurd h.2.2.1 (by omega)⟩
  by_cases h4 : k > 65536
  · exact ⟨_, 0, by simp only [h1, h2, h3, h4, decide_true, decide_false, Bool.false_eq_true, if_true, if_false]; rfl, fun _ => rfl, fun h => absurd h.2.2.2 (by omega)⟩
  have e1 : IntKind.wrap .i64 (3 * k) = 3 * k := w64 (by omega)
  have hq0 : 0 ≤ q / (3 * k) := Int.ediv_nonneg (by omega) (by omega)
  have hq1 : q / (3 * k) ≤ q := Int.ediv_le_self _ (by omega)
  obtain ⟨s, hs⟩ := root_ex (q / (3 * k)).toNat
  have hr := root01_spec (n := (q / (3 * k)).toNat) (by omega) hs
  have ht : ((q / (3 * k)).toNat : Int) = q / (3 * k) := Int.toNat_of_nonneg hq0
  rw [ht] at hr
  refine ⟨[AObj.cells [.int .i64 n, .int .i64 m, .int .i64 a, .int .i64 q] ⟨false, 0⟩], s, ?_, fun h => absurd ⟨by omega, by omega, by omega, by omega⟩ h, fun _ => ⟨s, rfl, hs⟩⟩
  have hd := div01_spec (x := q) (y := 3 * k) (by omega) (by omega)
  have e4 : IntKind.wrap .u64 (q / (3 * k)) = q / (3 * k) := wu64 (by omega)
  simp only [h1, h2, h3, h4, decide_false, Bool.false_eq_true, if_false, e1, hd, e4, hr, Option.bind_some, intOf_int]

end Go.Proofs.Ytkjgmcjdblhkeaa
