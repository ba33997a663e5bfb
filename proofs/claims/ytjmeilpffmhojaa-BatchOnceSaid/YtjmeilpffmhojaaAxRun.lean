/- The interpreter as a whole is sound. -/
import Derived.Test.YtjmeilpffmhojaaAxFun
set_option linter.unusedVariables false
set_option linter.unusedSimpArgs false
namespace Go.Ax
open Go Go.RowKit

/-- What a contract from without must keep. -/
def ExtOk (P : Program) (g : FuncId) (h : List Value → AMem → Res) : Prop :=
  ∀ (args : List Value) (A : AMem) (r : Value × AMem), h args A = some r → ∀ (base : Nat) (ι : Iota) (W : World) (args' : Array Value),
    Sim P base A ι W → LRel A ι W args args'.toList → base ≤ W.heap.size →
    (callFunc g args').run P W = .ok (.enter g args') W ∧ Calls P g args' W (CallPost P base A ι W r)

structure EnvOk (P : Program) (E : Env) : Prop where
  fn : ∀ g a, E.ext g = none → E.fn g = some a → OkFun P g a
  ext : ∀ g h, E.ext g = some h → ExtOk P g h
  grow : ∀ g h, E.ext g = some h → ∀ args A r, h args A = some r → Grow A r.2

theorem run_ok {P : Program} {E : Env} (hE : EnvOk P E) (hdraw : DrawsOk P) : ∀ n, RecOk P (run E n) := by
  intro n
  induction n using Nat.strongRecOn with
  | _ n ih =>
    refine ⟨fun f args A r hk base ι W args' hs ha hb => ?_, fun l args A r hk base ι W args' l' hs ha hb hy => ?_, fun b c hc => run_ok_loop hdraw (grow_run E hE.grow) ih b c hc⟩
    · cases n with
      | zero => cases hk
      | succ n =>
        have hk' : (match E.ext f with
          | some h => h args A
          | none => match E.fn f with
            | some a => enterF (run E n) a args A
            | none => none) = some r := hk
        split at hk'
        · rename_i h he
          exact hE.ext f h he args A r hk' base ι W args' hs ha hb
        · rename_i he
          split at hk'
          · rename_i a hfa
            exact enter_ok (ih n (Nat.lt_succ_self n)) (grow_run E hE.grow n) hdraw (hE.fn f a he hfa) hk' args' hs ha hb
          · cases hk'
    · cases n with
      | zero => cases hk
      | succ n => exact round_ok (ih n (Nat.lt_succ_self n)) (grow_run E hE.grow n) hdraw hk args' l' hs ha hb hy

end Go.Ax
