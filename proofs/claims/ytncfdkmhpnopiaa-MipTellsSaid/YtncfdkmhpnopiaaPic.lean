/- Pictures: which may be, and which are one. -/
import Derived.Test.YtncfdkmhpnopiaaEqPic
import Derived.Test.YtncfdkmhpnopiaaAxD
set_option linter.unusedVariables false
set_option linter.unusedSimpArgs false
namespace Go.Proofs.Ytncfdkmhpnopiaa
open Go Go.Ax

structure Px where
  r : Int
  g : Int
  b : Int
deriving DecidableEq

def encP (x : Px) : List Value := [.int .i64 x.r, .int .i64 x.g, .int .i64 x.b]

theorem encP_length (x : Px) : (encP x).length = 3 := rfl

def Px.fit (x : Px) : Prop := (0 ≤ x.r ∧ x.r ≤ 255) ∧ (0 ≤ x.g ∧ x.g ≤ 255) ∧ (0 ≤ x.b ∧ x.b ≤ 255)
instance (x : Px) : Decidable x.fit := by unfold Px.fit; infer_instance

/-- May it be? -/
def PFit (W H : Int) (l : List Px) : Prop := (∀ x ∈ l, x.fit) ∧ (1 ≤ W ∧ W ≤ 256) ∧ (1 ≤ H ∧ H ≤ 256) ∧ (l.length : Int) = W * H
instance (W H : Int) (l : List Px) : Decidable (PFit W H l) := by unfold PFit; infer_instance

def picV (W H : Int) (p : Option Addr) (n c : Nat) : Value := .agg #[.int .i64 W, .int .i64 H, .slice p n c]

theorem px_ld {M : AMem} {a : Nat} {l : List Px} (h : Rd M a (l.flatMap encP)) {i : Nat} {x : Px} (hi : l[i]? = some x) :
    M.ld a (i * 3) = some (.int .i64 x.r) ∧ M.ld a (i * 3 + 1) = some (.int .i64 x.g) ∧ M.ld a (i * 3 + 2) = some (.int .i64 x.b) := by
  refine ⟨?_, ?_, ?_⟩
  · have := flat_get encP_length l i 0 x hi (by omega)
    rw [Nat.add_zero] at this
    rw [h.ld, this]; rfl
  · rw [h.ld, flat_get encP_length l i 1 x hi (by omega)]; rfl
  · rw [h.ld, flat_get encP_length l i 2 x hi (by omega)]; rfl

theorem sides41_spec (W H n : Int) : ∃ M, LL.call 21 [.int .i64 W, .int .i64 H, .int .i64 n] [] = some (.bool (decide ((1 ≤ W ∧ W ≤ 256) ∧ (1 ≤ H ∧ H ≤ 256) ∧ n = W * H)), M) := by
  rw [L_call21, E21]
  by_cases c1 : W ≥ 1
  · by_cases c2 : W ≤ 256
    · by_cases c3 : H ≥ 1
      · by_cases c4 : H ≤ 256
        · have h1 : 0 ≤ W * H := Int.mul_nonneg (by omega) (by omega)
          have h2 : W * H ≤ 256 * 256 := Int.mul_le_mul c2 c4 (by omega) (by omega)
          have hw : IntKind.wrap .i64 (W * H) = W * H := w64 (by omega)
          simp only [c1, c2, c3, c4, decide_true, if_true, hw]
          refine ⟨[], ?_⟩
          congr 3
          by_cases e : n = W * H
          · simp [e, c1, c2, c3, c4]
          · simp [e]
        · simp [c1, c2, c3, c4]
      · simp [c1, c2, c3, show ¬ 1 ≤ H by omega]
    · simp [c1, c2]
  · simp [c1, show ¬ 1 ≤ W by omega]

theorem right41_loop {W H : Int} {p : Option Addr} {c : Nat} {l : List Px} (hl : l.length ≤ 9223372036854775807) {M : AMem} {b : Nat} (hb : Cells M b [.int .i64 W, .int .i64 H, .slice p l.length c]) (hp : RdL M encP p l.length l) :
    ∀ (d i : Nat), i + d = l.length → ∃ M', P6_6 LL b i M = some (.bool (decide ((∀ x ∈ l.drop i, x.fit) ∧ (1 ≤ W ∧ W ≤ 256) ∧ (1 ≤ H ∧ H ≤ 256) ∧ (l.length : Int) = W * H)), M') ∧ Same M M' [] := by
  have b0 : M.ld b 0 = some (.int .i64 W) := hb.ld 0
  have b1 : M.ld b 1 = some (.int .i64 H) := hb.ld 1
  have b2 : M.ld b 2 = some (.slice p l.length c) := hb.ld 2
  intro d
  induction d with
  | zero =>
    intro i hi
    obtain rfl : i = l.length := by omega
    obtain ⟨_, hs⟩ := sides41_spec W H l.length
    rw [P6_6_eq LL L_loop]
    have : ¬ ((l.length : Int) < Int.ofNat l.length) := by rw [ofN]; omega
    simp only [b2, sliceOf_slice, Option.bind_some, this, decide_false, Bool.false_eq_true, if_false, P6_23_eq, b0, b1, intOf_int, ofN, hs, boolOf_bool]
    refine ⟨M, ?_, .refl _ _⟩
    congr 3
    simp
  | succ d ih =>
    intro i hi
    have hil : i < l.length := by omega
    obtain ⟨a, rfl, ha⟩ := hp.2 (by omega)
    obtain ⟨x, hx⟩ : ∃ x, l[i]? = some x := ⟨_, List.getElem?_eq_getElem hil⟩
    obtain ⟨e0, e1, e2⟩ := px_ld ha hx
    have hlt : (i : Int) < Int.ofNat l.length := by rw [ofN]; omega
    have h0 : (0 : Int) ≤ (i : Int) := by omega
    have hw : IntKind.wrap .i64 ((i : Int) + 1) = ((i + 1 : Nat) : Int) := by rw [w64 (by omega)]; rfl
    have hd : l.drop i = x :: l.drop (i + 1) := by
      rw [List.drop_eq_getElem_cons hil]; congr 1; exact (List.getElem?_eq_some_iff.1 hx).2
    have m1 : (if x.b < (if x.g < x.r then x.g else x.r) then x.b else (if x.g < x.r then x.g else x.r)) < 0 ↔ ¬ (0 ≤ x.r ∧ 0 ≤ x.g ∧ 0 ≤ x.b) := by
      split <;> (try split) <;> omega
    have m2 : (if x.b > (if x.g > x.r then x.g else x.r) then x.b else (if x.g > x.r then x.g else x.r)) > 255 ↔ ¬ (x.r ≤ 255 ∧ x.g ≤ 255 ∧ x.b ≤ 255) := by
      split <;> (try split) <;> omega
    rw [P6_6_eq LL L_loop]
    simp only [b2, sliceOf_slice, Option.bind_some, hlt, h0, and_self, decide_true, if_true, Nat.zero_add, Int.toNat_natCast, e0, e1, e2, intOf_int, m1, m2]
    by_cases c1 : 0 ≤ x.r ∧ 0 ≤ x.g ∧ 0 ≤ x.b
    · by_cases c2 : x.r ≤ 255 ∧ x.g ≤ 255 ∧ x.b ≤ 255
      · obtain ⟨M', e, es⟩ := ih (i + 1) (by omega)
        simp only [c1, c2, and_self, not_true_eq_false, decide_false, Bool.false_eq_true, if_false, P6_22_eq, hw, e]
        refine ⟨M', ?_, es⟩
        congr 3
        have hf : x.fit := ⟨by omega, by omega, by omega⟩
        rw [hd]
        simp [hf]
      · simp only [c1, c2, and_self, not_true_eq_false, not_false_eq_true, decide_true, decide_false, Bool.false_eq_true, if_false, if_true]
        refine ⟨M, ?_, .refl _ _⟩
        congr 3; symm
        refine decide_eq_false fun h => c2 ?_
        have := h.1 x (by rw [hd]; simp)
        unfold Px.fit at this; omega
    · simp only [c1, not_false_eq_true, decide_true, if_true]
      refine ⟨M, ?_, .refl _ _⟩
      congr 3; symm
      refine decide_eq_false fun h => c1 ?_
      have := h.1 x (by rw [hd]; simp)
      unfold Px.fit at this; omega

theorem right41_spec {W H : Int} {p : Option Addr} {c : Nat} {l : List Px} (hl : l.length ≤ 9223372036854775807) {M : AMem} (hp : RdL M encP p l.length l) :
    ∃ M', LL.call 6 [picV W H p l.length c] M = some (.bool (decide (PFit W H l)), M') ∧ Same M M' [] := by
  rw [L_call6]
  unfold picV
  rw [E6]
  have g0 := cells_new M [.int .i64 W, .int .i64 H, .slice p l.length c] 0
  have s0 := same_app M [AObj.cells [.int .i64 W, .int .i64 H, .slice p l.length c] ⟨false, 0⟩]
  obtain ⟨M', e, es⟩ := right41_loop (W := W) (H := H) (c := c) hl g0 (hp.same s0 (by simp)) l.length 0 (by omega)
  exact ⟨M', e, (s0.trans es).mono (by simp)⟩

end Go.Proofs.Ytncfdkmhpnopiaa
