/- Entries: a pixel, and three numbers. -/
import Derived.Test.YtjcmnchkgnmooaaAxD
set_option linter.unusedVariables false
set_option linter.unusedSimpArgs false
namespace Go.Proofs.Ytjcmnchkgnmooaa
open Go Go.Ax

structure En where
  px : Int
  w0 : Int
  w1 : Int
  w2 : Int

def encE (e : En) : List Value := [.int .i64 e.px, .int .u64 e.w0, .int .u64 e.w1, .int .u64 e.w2]
theorem encE_length (e : En) : (encE e).length = 4 := rfl

theorem ent_ld {M : AMem} {a : Nat} {l : List En} (h : Rd M a (l.flatMap encE)) {i : Nat} {x : En} (hi : l[i]? = some x) :
    M.ld a (i * 4) = some (.int .i64 x.px) ∧ M.ld a (i * 4 + 1) = some (.int .u64 x.w0) ∧ M.ld a (i * 4 + 2) = some (.int .u64 x.w1) ∧ M.ld a (i * 4 + 3) = some (.int .u64 x.w2) := by
  have q := fun j hj => flat_get encE_length l i j x hi hj
  refine ⟨?_, ?_, ?_, ?_⟩
  · have := q 0 (by omega); rw [Nat.add_zero] at this; rw [h.ld, this]; rfl
  · rw [h.ld, q 1 (by omega)]; rfl
  · rw [h.ld, q 2 (by omega)]; rfl
  · rw [h.ld, q 3 (by omega)]; rfl

end Go.Proofs.Ytjcmnchkgnmooaa
