/- What the laws on halves call. -/
import Derived.Test.YtncfdkmhpnopiaaPicX
import Derived.Test.YtncfdkmhpnopiaaEqLaw51
set_option linter.unusedVariables false
set_option linter.unusedSimpArgs false
namespace Go.Proofs.Ytncfdkmhpnopiaa
open Go Go.Ax

theorem of51_spec (W H : Int) (p : Option Addr) (n c : Nat) (M : AMem) : ∃ M', LL.call 9 [picV W H p n c] M = some (picV W H p n c, M') ∧ Same M M' [] := by
  rw [L_call9]
  unfold picV
  rw [E9]
  have g0 := cells_new M [.int .i64 W, .int .i64 H, .slice p n c] 0
  have s0 := same_app M [AObj.cells [.int .i64 W, .int .i64 H, .slice p n c] ⟨false, 0⟩]
  generalize hM0 : M ++ [AObj.cells [.int .i64 W, .int .i64 H, .slice p n c] ⟨false, 0⟩] = M0 at g0 s0
  obtain ⟨M1, w1, w2, w3, w4⟩ := wr_new M0 [.int .i64 0, .int .i64 0, .slice none 0 0] [.int .i64 W, .int .i64 H, .slice p n c] 0 rfl
  have s1 := same_app M0 [AObj.cells [.int .i64 0, .int .i64 0, .slice none 0 0] ⟨false, 0⟩]
  obtain ⟨a0, a1, a2⟩ := picV_ld (g0.same s1 (by simp)).rd
  obtain ⟨b0, b1, b2⟩ := picV_ld w2.rd
  refine ⟨M1, ?_, (s0.trans w3).mono (by simp)⟩
  simp only [a0, a1, a2, b0, b1, b2, w1, intOf_int, sliceOf_slice, Option.bind_some]

theorem back51_spec (W H : Int) (p : Option Addr) (n c : Nat) (M : AMem) : ∃ M', LL.call 13 [picV W H p n c] M = some (picV W H p n c, M') ∧ Same M M' [] := by
  rw [L_call13]
  unfold picV
  rw [E13]
  have g0 := cells_new M [.int .i64 W, .int .i64 H, .slice p n c] 0
  have s0 := same_app M [AObj.cells [.int .i64 W, .int .i64 H, .slice p n c] ⟨false, 0⟩]
  generalize hM0 : M ++ [AObj.cells [.int .i64 W, .int .i64 H, .slice p n c] ⟨false, 0⟩] = M0 at g0 s0
  obtain ⟨M1, w1, w2, w3, w4⟩ := wr_new M0 [.int .i64 0, .int .i64 0, .slice none 0 0] [.int .i64 W, .int .i64 H, .slice p n c] 0 rfl
  have s1 := same_app M0 [AObj.cells [.int .i64 0, .int .i64 0, .slice none 0 0] ⟨false, 0⟩]
  obtain ⟨a0, a1, a2⟩ := picV_ld (g0.same s1 (by simp)).rd
  obtain ⟨b0, b1, b2⟩ := picV_ld w2.rd
  refine ⟨M1, ?_, (s0.trans w3).mono (by simp)⟩
  simp only [a0, a1, a2, b0, b1, b2, w1, intOf_int, sliceOf_slice, Option.bind_some]

end Go.Proofs.Ytncfdkmhpnopiaa
