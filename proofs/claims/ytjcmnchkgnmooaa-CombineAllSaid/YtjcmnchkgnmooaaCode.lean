/- All of them. -/
import Derived.Test.YtjcmnchkgnmooaaCodeF
set_option linter.unusedVariables false
set_option maxRecDepth 100000
namespace Go.Proofs.Ytjcmnchkgnmooaa
open Go Go.Ax
def envL : List (Nat × AFun) := [(3, a3), (4, a4), (5, a5), (6, a6), (7, a7), (8, a8), (9, a9), (10, a10), (11, a11), (12, a12), (13, a13), (14, a14), (15, a15), (18, a18), (19, a19)]
def extL : List (Nat × (List Value → AMem → Res)) := [(16, sortH), (17, compactH)]
def env : Env := ⟨fun g => envL.lookup g, fun g => extL.lookup g⟩
theorem LL_ex : ∃ L : Rec, L = lim env := ⟨_, rfl⟩
/-- The interpreter of these functions: nothing unfolds it. -/
noncomputable def LL : Rec := Classical.choose LL_ex
theorem LL_lim : LL = lim env := Classical.choose_spec LL_ex
theorem L_loop (b : ACode) (K : KT) (t : List Value) (A : AMem) : LL.loop b K t A = code LL b (loopK LL b K) t A := by rw [LL_lim]; exact lim_loop env b K t A
theorem L_round (l : Nat) (args : List Value) (A : AMem) : LL.round l args A = roundF LL l args A := by rw [LL_lim]; exact lim_round env l args A
theorem L_fn {f : FuncId} {a : AFun} (hx : extL.lookup f = none) (h : envL.lookup f = some a) (args : List Value) (A : AMem) : LL.call f args A = enterF LL a args A := by rw [LL_lim]; exact lim_call hx h args A
theorem L_call16 (args : List Value) (A : AMem) : LL.call 16 args A = sortH args A := by rw [LL_lim]; exact lim_ext (E := env) rfl args A
theorem L_call17 (args : List Value) (A : AMem) : LL.call 17 args A = compactH args A := by rw [LL_lim]; exact lim_ext (E := env) rfl args A
theorem L_call3 (args : List Value) (A : AMem) : LL.call 3 args A = enterF LL a3 args A := L_fn (by kernel_rfl) (by kernel_rfl) args A
theorem L_call4 (args : List Value) (A : AMem) : LL.call 4 args A = enterF LL a4 args A := L_fn (by kernel_rfl) (by kernel_rfl) args A
theorem L_call5 (args : List Value) (A : AMem) : LL.call 5 args A = enterF LL a5 args A := L_fn (by kernel_rfl) (by kernel_rfl) args A
theorem L_call6 (args : List Value) (A : AMem) : LL.call 6 args A = enterF LL a6 args A := L_fn (by kernel_rfl) (by kernel_rfl) args A
theorem L_call7 (args : List Value) (A : AMem) : LL.call 7 args A = enterF LL a7 args A := L_fn (by kernel_rfl) (by kernel_rfl) args A
theorem L_call8 (args : List Value) (A : AMem) : LL.call 8 args A = enterF LL a8 args A := L_fn (by kernel_rfl) (by kernel_rfl) args A
theorem L_call9 (args : List Value) (A : AMem) : LL.call 9 args A = enterF LL a9 args A := L_fn (by kernel_rfl) (by kernel_rfl) args A
theorem L_call10 (args : List Value) (A : AMem) : LL.call 10 args A = enterF LL a10 args A := L_fn (by kernel_rfl) (by kernel_rfl) args A
theorem L_call11 (args : List Value) (A : AMem) : LL.call 11 args A = enterF LL a11 args A := L_fn (by kernel_rfl) (by kernel_rfl) args A
theorem L_call12 (args : List Value) (A : AMem) : LL.call 12 args A = enterF LL a12 args A := L_fn (by kernel_rfl) (by kernel_rfl) args A
theorem L_call13 (args : List Value) (A : AMem) : LL.call 13 args A = enterF LL a13 args A := L_fn (by kernel_rfl) (by kernel_rfl) args A
theorem L_call14 (args : List Value) (A : AMem) : LL.call 14 args A = enterF LL a14 args A := L_fn (by kernel_rfl) (by kernel_rfl) args A
theorem L_call15 (args : List Value) (A : AMem) : LL.call 15 args A = enterF LL a15 args A := L_fn (by kernel_rfl) (by kernel_rfl) args A
theorem L_call18 (args : List Value) (A : AMem) : LL.call 18 args A = enterF LL a18 args A := L_fn (by kernel_rfl) (by kernel_rfl) args A
theorem L_call19 (args : List Value) (A : AMem) : LL.call 19 args A = enterF LL a19 args A := L_fn (by kernel_rfl) (by kernel_rfl) args A
theorem envAll : ∀ p ∈ envL, OkFun Try.prog p.1 p.2 := List.forall_mem_cons.2 ⟨ok3, List.forall_mem_cons.2 ⟨ok4, List.forall_mem_cons.2 ⟨ok5, List.forall_mem_cons.2 ⟨ok6, List.forall_mem_cons.2 ⟨ok7, List.forall_mem_cons.2 ⟨ok8, List.forall_mem_cons.2 ⟨ok9, List.forall_mem_cons.2 ⟨ok10, List.forall_mem_cons.2 ⟨ok11, List.forall_mem_cons.2 ⟨ok12, List.forall_mem_cons.2 ⟨ok13, List.forall_mem_cons.2 ⟨ok14, List.forall_mem_cons.2 ⟨ok15, List.forall_mem_cons.2 ⟨ok18, List.forall_mem_cons.2 ⟨ok19, fun p hp => nomatch hp⟩⟩⟩⟩⟩⟩⟩⟩⟩⟩⟩⟩⟩⟩⟩
theorem extAll : ∀ p ∈ extL, ExtOk Try.prog p.1 p.2 ∧ ∀ args A r, p.2 args A = some r → Grow A r.2 := List.forall_mem_cons.2 ⟨⟨sort_ext, sort_grow⟩, List.forall_mem_cons.2 ⟨⟨compact_ext, compact_grow⟩, fun p hp => nomatch hp⟩⟩
theorem envOk : EnvOk Try.prog env := ⟨fun g a _ h => envAll _ (lookup_mem h), fun g h e => (extAll _ (lookup_mem e)).1, fun g h e => (extAll _ (lookup_mem e)).2⟩
end Go.Proofs.Ytjcmnchkgnmooaa
