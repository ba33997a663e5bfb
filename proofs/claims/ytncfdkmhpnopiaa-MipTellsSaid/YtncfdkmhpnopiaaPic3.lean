/- Pictures: the program's own check. -/
import Derived.Test.YtncfdkmhpnopiaaPic2
set_option linter.unusedVariables false
set_option linter.unusedSimpArgs false
namespace Go.Proofs.Ytncfdkmhpnopiaa
open Go Go.Ax

theorem sides_spec (W H n : Int) : ∃ M, LL.call 32 [.int .i64 W, .int .i64 H, .int .i64 n] [] = some (.bool (decide ((1 ≤ W ∧ W ≤ 256) ∧ (1 ≤ H ∧ H ≤ 256) ∧ n = W * H)), M) := by
  rw [L_call32, E32]
  by_cases c1 : 1 ≤ W
  · by_cases c2 : W ≤ 256
    · by_cases c3 : 1 ≤ H
      · by_cases c4 : H ≤ 256
        · have h1 : 0 ≤ W * H := Int.mul_nonneg (by omega) (by omega)
          have h2 : W * H ≤ 256 * 256 := Int.mul_le_mul c2 c4 (by omega) (by omega)
          have hw : IntKind.wrap .i64 (W * H) = W * H := w64 (by omega)
          simp only [c1, c2, c3, c4, decide_true, if_true, hw]
          refine ⟨[], ?_⟩
          congr 3
          by_cases e : n = W * H
          · simp [e, c1, c2, c3, c4]
          · simp [e]
        · simp [c1, c2, c3, c4]
      · simp [c1, c2, c3]
    · simp [c1, c2]
  · simp [c1]

theorem bright_spec (n : Int) : LL.call 31 [.int .i64 n] [] = some (.bool (decide (0 ≤ n ∧ n ≤ 255)), []) := by
  rw [L_call31, E31]
  by_cases c : 0 ≤ n
  · simp [c]
  · simp [c]

theorem right_loop {W H : Int} {p : Option Addr} {c : Nat} {l : List Px} (hl : l.length ≤ 9223372036854775807) {b : Nat} :
    ∀ (d i : Nat) (M : AMem), i + d = l.length → Cells M b [.int .i64 W, .int .i64 H, .slice p l.length c] → RdL M encP p l.length l →
      ∃ M', P22_6 LL b p l.length c l.length i M = some (.bool (decide ((∀ x ∈ l.drop i, x.fit) ∧ (1 ≤ W ∧ W ≤ 256) ∧ (1 ≤ H ∧ H ≤ 256) ∧ (l.length : Int) = W * H)), M') ∧ Same M M' [] := by
  intro d
  induction d with
  | zero =>
    intro i M hi hb hp
    have b0 : M.ld b 0 = some (.int .i64 W) := hb.ld 0
    have b1 : M.ld b 1 = some (.int .i64 H) := hb.ld 1
    have b2 : M.ld b 2 = some (.slice p l.length c) := hb.ld 2
    obtain rfl : i = l.length := by omega
    obtain ⟨_, hs⟩ := sides_spec W H l.length
    rw [P22_6_eq LL L_loop]
    simp only [Int.lt_irrefl, decide_false, Bool.false_eq_true, if_false, P22_25_eq, b0, b1, b2, sliceOf_slice, intOf_int, Option.bind_some, ofN, hs, boolOf_bool]
    refine ⟨M, ?_, .refl _ _⟩
    congr 3
    simp
  | succ d ih =>
    intro i M hi hb hp
    have hil : i < l.length := by omega
    obtain ⟨a, rfl, ha⟩ := hp.2 (by omega)
    obtain ⟨x, hx⟩ : ∃ x, l[i]? = some x := ⟨_, List.getElem?_eq_getElem hil⟩
    obtain ⟨e0, e1, e2⟩ := px_ld ha hx
    have hlt : (i : Int) < (l.length : Int) := by omega
    have hlt' : (i : Int) < Int.ofNat l.length := by rw [ofN]; omega
    have h0 : (0 : Int) ≤ (i : Int) := by omega
    have hw : IntKind.wrap .i64 ((i : Int) + 1) = ((i + 1 : Nat) : Int) := by rw [w64 (by omega)]; rfl
    have hd : l.drop i = x :: l.drop (i + 1) := by
      rw [List.drop_eq_getElem_cons hil]; congr 1; exact (List.getElem?_eq_some_iff.1 hx).2
    have g0 := cells_new M [.int .i64 0, .int .i64 0, .int .i64 0] 0
    have s0 := same_app M [AObj.cells [.int .i64 0, .int .i64 0, .int .i64 0] ⟨false, 0⟩]
    obtain ⟨M5, w1, w2, w3, _⟩ := g0.wr (o := 0) (vs := encP x) (by simp [encP])
    have w2' : Cells M5 M.length (encP x) := by simpa [encP, wrL] using w2
    have s5 : Same M M5 [] := (s0.trans w3).mono' (by simp)
    have l0 : M5.ld M.length 0 = some (.int .i64 x.r) := w2'.ld 0
    have l1 : M5.ld M.length 1 = some (.int .i64 x.g) := w2'.ld 1
    have l2 : M5.ld M.length 2 = some (.int .i64 x.b) := w2'.ld 2
    unfold encP at w1
    rw [P22_6_eq LL L_loop]
    simp only [hlt, hlt', h0, and_self, decide_true, if_true, Nat.zero_add, Int.toNat_natCast, e0, e1, e2, intOf_int, Option.bind_some, w1, l0, l1, l2, bright_spec, boolOf_bool]
    by_cases c0 : 0 ≤ x.r ∧ x.r ≤ 255
    · by_cases c1 : 0 ≤ x.g ∧ x.g ≤ 255
      · by_cases c2 : 0 ≤ x.b ∧ x.b ≤ 255
        · obtain ⟨M', e, es⟩ := ih (i + 1) M5 (by omega) (hb.same s5 (by simp)) (hp.same s5 (by simp))
          simp only [c0, c1, c2, and_self, decide_true, Bool.not_true, Bool.false_eq_true, if_false, P22_24_eq, hw, e]
          refine ⟨M', ?_, (s5.trans es).mono (by simp)⟩
          congr 3
          have hf : x.fit := ⟨c0, c1, c2⟩
          rw [hd]
          simp [hf]
        · simp only [c0, c1, c2, and_self, decide_true, decide_false, Bool.not_true, Bool.not_false, Bool.false_eq_true, if_false, if_true]
          refine ⟨M5, ?_, s5⟩
          congr 3; symm
          exact decide_eq_false fun h => c2 (h.1 x (by rw [hd]; simp)).2.2
      · simp only [c0, c1, and_self, decide_true, decide_false, Bool.not_true, Bool.not_false, Bool.false_eq_true, if_false, if_true]
        refine ⟨M5, ?_, s5⟩
        congr 3; symm
        exact decide_eq_false fun h => c1 (h.1 x (by rw [hd]; simp)).2.1
    · simp only [c0, decide_false, Bool.not_false, if_true]
      refine ⟨M5, ?_, s5⟩
      congr 3; symm
      exact decide_eq_false fun h => c0 (h.1 x (by rw [hd]; simp)).1

theorem right_spec {W H : Int} {p : Option Addr} {c : Nat} {l : List Px} (hl : l.length ≤ 9223372036854775807) {M : AMem} (hp : RdL M encP p l.length l) :
    ∃ M', LL.call 22 [picV W H p l.length c] M = some (.bool (decide (PFit W H l)), M') ∧ Same M M' [] := by
  rw [L_call22]
  unfold picV
  rw [E22]
  have g0 := cells_new M [.int .i64 W, .int .i64 H, .slice p l.length c] 0
  have s0 := same_app M [AObj.cells [.int .i64 W, .int .i64 H, .slice p l.length c] ⟨false, 0⟩]
  generalize hM0 : M ++ [AObj.cells [.int .i64 W, .int .i64 H, .slice p l.length c] ⟨false, 0⟩] = M0 at g0 s0
  have b2 : M0.ld M.length 2 = some (.slice p l.length c) := g0.ld 2
  obtain ⟨M', e, es⟩ := right_loop (W := W) (H := H) (c := c) hl l.length 0 M0 (by omega) g0 (hp.same s0 (by simp))
  simp only [b2, sliceOf_slice, Option.bind_some]
  exact ⟨M', e, (s0.trans es).mono (by simp)⟩

end Go.Proofs.Ytncfdkmhpnopiaa
