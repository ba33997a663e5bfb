/- A closed run is the kernel's; the example. -/
import Derived.Test.YtjcmnchkgnmooaaCode
set_option linter.unusedVariables false
set_option maxRecDepth 100000
namespace Go.Proofs.Ytjcmnchkgnmooaa
open Go Go.Ax

def isT : Res → Bool
  | some (.bool b, _) => b
  | _ => false

theorem isT_some : ∀ {r : Res}, isT r = true → ∃ M, r = some (.bool true, M)
  | some (.bool b, M), h => ⟨M, by cases b <;> simp [isT] at h ⊢⟩
  | some (.int _ _, _), h => by simp [isT] at h
  | none, h => by simp [isT] at h

theorem closed {f : FuncId} {args : List Value} {A : AMem} (n : Nat) (h : isT ((run env n).call f args A) = true) : ∃ M, LL.call f args A = some (.bool true, M) := by
  obtain ⟨M, e⟩ := isT_some h
  refine ⟨M, ?_⟩
  rw [LL_lim]
  exact lim_call_iff.2 ⟨n, e⟩


end Go.Proofs.Ytjcmnchkgnmooaa
