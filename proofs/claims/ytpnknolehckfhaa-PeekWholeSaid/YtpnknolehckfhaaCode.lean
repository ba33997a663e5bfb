/- All of them. -/
import Derived.Test.YtpnknolehckfhaaCodeF
set_option linter.unusedVariables false
set_option maxRecDepth 100000
namespace Go.Proofs.Ytpnknolehckfhaa
open Go Go.Ax
def envL : List (Nat × AFun) := [(3, a3), (4, a4), (5, a5), (6, a6), (7, a7), (8, a8), (9, a9), (10, a10), (11, a11), (12, a12), (13, a13), (14, a14), (15, a15), (16, a16), (17, a17), (18, a18), (19, a19), (20, a20), (21, a21), (22, a22), (23, a23), (24, a24), (25, a25), (26, a26), (27, a27), (28, a28), (29, a29), (30, a30), (31, a31), (32, a32), (33, a33), (34, a34), (35, a35), (36, a36), (37, a37), (38, a38), (39, a39), (40, a40), (41, a41), (42, a42), (43, a43), (44, a44), (45, a45), (46, a46), (47, a47), (48, a48), (49, a49), (50, a50), (51, a51), (52, a52), (53, a53), (54, a54), (55, a55), (56, a56), (57, a57), (58, a58), (59, a59)]
def env : Env := ⟨fun g => envL.lookup g, fun _ => none⟩
theorem LL_ex : ∃ L : Rec, L = lim env := ⟨_, rfl⟩
/-- The interpreter of these functions: nothing unfolds it. -/
noncomputable def LL : Rec := Classical.choose LL_ex
theorem LL_lim : LL = lim env := Classical.choose_spec LL_ex
theorem L_loop (b : ACode) (K : KT) (t : List Value) (A : AMem) : LL.loop b K t A = code LL b (loopK LL b K) t A := by rw [LL_lim]; exact lim_loop env b K t A
theorem L_round (l : Nat) (args : List Value) (A : AMem) : LL.round l args A = roundF LL l args A := by rw [LL_lim]; exact lim_round env l args A
theorem L_fn {f : FuncId} {a : AFun} (h : envL.lookup f = some a) (args : List Value) (A : AMem) : LL.call f args A = enterF LL a args A := by rw [LL_lim]; exact lim_call rfl h args A
theorem L_call3 (args : List Value) (A : AMem) : LL.call 3 args A = enterF LL a3 args A := L_fn (by kernel_rfl) args A
theorem L_call4 (args : List Value) (A : AMem) : LL.call 4 args A = enterF LL a4 args A := L_fn (by kernel_rfl) args A
theorem L_call5 (args : List Value) (A : AMem) : LL.call 5 args A = enterF LL a5 args A := L_fn (by kernel_rfl) args A
theorem L_call6 (args : List Value) (A : AMem) : LL.call 6 args A = enterF LL a6 args A := L_fn (by kernel_rfl) args A
theorem L_call7 (args : List Value) (A : AMem) : LL.call 7 args A = enterF LL a7 args A := L_fn (by kernel_rfl) args A
theorem L_call8 (args : List Value) (A : AMem) : LL.call 8 args A = enterF LL a8 args A := L_fn (by kernel_rfl) args A
theorem L_call9 (args : List Value) (A : AMem) : LL.call 9 args A = enterF LL a9 args A := L_fn (by kernel_rfl) args A
theorem L_call10 (args : List Value) (A : AMem) : LL.call 10 args A = enterF LL a10 args A := L_fn (by kernel_rfl) args A
theorem L_call11 (args : List Value) (A : AMem) : LL.call 11 args A = enterF LL a11 args A := L_fn (by kernel_rfl) args A
theorem L_call12 (args : List Value) (A : AMem) : LL.call 12 args A = enterF LL a12 args A := L_fn (by kernel_rfl) args A
theorem L_call13 (args : List Value) (A : AMem) : LL.call 13 args A = enterF LL a13 args A := L_fn (by kernel_rfl) args A
theorem L_call14 (args : List Value) (A : AMem) : LL.call 14 args A = enterF LL a14 args A := L_fn (by kernel_rfl) args A
theorem L_call15 (args : List Value) (A : AMem) : LL.call 15 args A = enterF LL a15 args A := L_fn (by kernel_rfl) args A
theorem L_call16 (args : List Value) (A : AMem) : LL.call 16 args A = enterF LL a16 args A := L_fn (by kernel_rfl) args A
theorem L_call17 (args : List Value) (A : AMem) : LL.call 17 args A = enterF LL a17 args A := L_fn (by kernel_rfl) args A
theorem L_call18 (args : List Value) (A : AMem) : LL.call 18 args A = enterF LL a18 args A := L_fn (by kernel_rfl) args A
theorem L_call19 (args : List Value) (A : AMem) : LL.call 19 args A = enterF LL a19 args A := L_fn (by kernel_rfl) args A
theorem L_call20 (args : List Value) (A : AMem) : LL.call 20 args A = enterF LL a20 args A := L_fn (by kernel_rfl) args A
theorem L_call21 (args : List Value) (A : AMem) : LL.call 21 args A = enterF LL a21 args A := L_fn (by kernel_rfl) args A
theorem L_call22 (args : List Value) (A : AMem) : LL.call 22 args A = enterF LL a22 args A := L_fn (by kernel_rfl) args A
theorem L_call23 (args : List Value) (A : AMem) : LL.call 23 args A = enterF LL a23 args A := L_fn (by kernel_rfl) args A
theorem L_call24 (args : List Value) (A : AMem) : LL.call 24 args A = enterF LL a24 args A := L_fn (by kernel_rfl) args A
theorem L_call25 (args : List Value) (A : AMem) : LL.call 25 args A = enterF LL a25 args A := L_fn (by kernel_rfl) args A
theorem L_call26 (args : List Value) (A : AMem) : LL.call 26 args A = enterF LL a26 args A := L_fn (by kernel_rfl) args A
theorem L_call27 (args : List Value) (A : AMem) : LL.call 27 args A = enterF LL a27 args A := L_fn (by kernel_rfl) args A
theorem L_call28 (args : List Value) (A : AMem) : LL.call 28 args A = enterF LL a28 args A := L_fn (by kernel_rfl) args A
theorem L_call29 (args : List Value) (A : AMem) : LL.call 29 args A = enterF LL a29 args A := L_fn (by kernel_rfl) args A
theorem L_call30 (args : List Value) (A : AMem) : LL.call 30 args A = enterF LL a30 args A := L_fn (by kernel_rfl) args A
theorem L_call31 (args : List Value) (A : AMem) : LL.call 31 args A = enterF LL a31 args A := L_fn (by kernel_rfl) args A
theorem L_call32 (args : List Value) (A : AMem) : LL.call 32 args A = enterF LL a32 args A := L_fn (by kernel_rfl) args A
theorem L_call33 (args : List Value) (A : AMem) : LL.call 33 args A = enterF LL a33 args A := L_fn (by kernel_rfl) args A
theorem L_call34 (args : List Value) (A : AMem) : LL.call 34 args A = enterF LL a34 args A := L_fn (by kernel_rfl) args A
theorem L_call35 (args : List Value) (A : AMem) : LL.call 35 args A = enterF LL a35 args A := L_fn (by kernel_rfl) args A
theorem L_call36 (args : List Value) (A : AMem) : LL.call 36 args A = enterF LL a36 args A := L_fn (by kernel_rfl) args A
theorem L_call37 (args : List Value) (A : AMem) : LL.call 37 args A = enterF LL a37 args A := L_fn (by kernel_rfl) args A
theorem L_call38 (args : List Value) (A : AMem) : LL.call 38 args A = enterF LL a38 args A := L_fn (by kernel_rfl) args A
theorem L_call39 (args : List Value) (A : AMem) : LL.call 39 args A = enterF LL a39 args A := L_fn (by kernel_rfl) args A
theorem L_call40 (args : List Value) (A : AMem) : LL.call 40 args A = enterF LL a40 args A := L_fn (by kernel_rfl) args A
theorem L_call41 (args : List Value) (A : AMem) : LL.call 41 args A = enterF LL a41 args A := L_fn (by kernel_rfl) args A
theorem L_call42 (args : List Value) (A : AMem) : LL.call 42 args A = enterF LL a42 args A := L_fn (by kernel_rfl) args A
theorem L_call43 (args : List Value) (A : AMem) : LL.call 43 args A = enterF LL a43 args A := L_fn (by kernel_rfl) args A
theorem L_call44 (args : List Value) (A : AMem) : LL.call 44 args A = enterF LL a44 args A := L_fn (by kernel_rfl) args A
theorem L_call45 (args : List Value) (A : AMem) : LL.call 45 args A = enterF LL a45 args A := L_fn (by kernel_rfl) args A
theorem L_call46 (args : List Value) (A : AMem) : LL.call 46 args A = enterF LL a46 args A := L_fn (by kernel_rfl) args A
theorem L_call47 (args : List Value) (A : AMem) : LL.call 47 args A = enterF LL a47 args A := L_fn (by kernel_rfl) args A
theorem L_call48 (args : List Value) (A : AMem) : LL.call 48 args A = enterF LL a48 args A := L_fn (by kernel_rfl) args A
theorem L_call49 (args : List Value) (A : AMem) : LL.call 49 args A = enterF LL a49 args A := L_fn (by kernel_rfl) args A
theorem L_call50 (args : List Value) (A : AMem) : LL.call 50 args A = enterF LL a50 args A := L_fn (by kernel_rfl) args A
theorem L_call51 (args : List Value) (A : AMem) : LL.call 51 args A = enterF LL a51 args A := L_fn (by kernel_rfl) args A
theorem L_call52 (args : List Value) (A : AMem) : LL.call 52 args A = enterF LL a52 args A := L_fn (by kernel_rfl) args A
theorem L_call53 (args : List Value) (A : AMem) : LL.call 53 args A = enterF LL a53 args A := L_fn (by kernel_rfl) args A
theorem L_call54 (args : List Value) (A : AMem) : LL.call 54 args A = enterF LL a54 args A := L_fn (by kernel_rfl) args A
theorem L_call55 (args : List Value) (A : AMem) : LL.call 55 args A = enterF LL a55 args A := L_fn (by kernel_rfl) args A
theorem L_call56 (args : List Value) (A : AMem) : LL.call 56 args A = enterF LL a56 args A := L_fn (by kernel_rfl) args A
theorem L_call57 (args : List Value) (A : AMem) : LL.call 57 args A = enterF LL a57 args A := L_fn (by kernel_rfl) args A
theorem L_call58 (args : List Value) (A : AMem) : LL.call 58 args A = enterF LL a58 args A := L_fn (by kernel_rfl) args A
theorem L_call59 (args : List Value) (A : AMem) : LL.call 59 args A = enterF LL a59 args A := L_fn (by kernel_rfl) args A
theorem envAll : ∀ p ∈ envL, OkFun Try.prog p.1 p.2 := List.forall_mem_cons.2 ⟨ok3, List.forall_mem_cons.2 ⟨ok4, List.forall_mem_cons.2 ⟨ok5, List.forall_mem_cons.2 ⟨ok6, List.forall_mem_cons.2 ⟨ok7, List.forall_mem_cons.2 ⟨ok8, List.forall_mem_cons.2 ⟨ok9, List.forall_mem_cons.2 ⟨ok10, List.forall_mem_cons.2 ⟨ok11, List.forall_mem_cons.2 ⟨ok12, List.forall_mem_cons.2 ⟨ok13, List.forall_mem_cons.2 ⟨ok14, List.forall_mem_cons.2 ⟨ok15, List.forall_mem_cons.2 ⟨ok16, List.forall_mem_cons.2 ⟨ok17, List.forall_mem_cons.2 ⟨ok18, List.forall_mem_cons.2 ⟨ok19, List.forall_mem_cons.2 ⟨ok20, List.forall_mem_cons.2 ⟨ok21, List.forall_mem_cons.2 ⟨ok22, List.forall_mem_cons.2 ⟨ok23, List.forall_mem_cons.2 ⟨ok24, List.forall_mem_cons.2 ⟨ok25, List.forall_mem_cons.2 ⟨ok26, List.forall_mem_cons.2 ⟨ok27, List.forall_mem_cons.2 ⟨ok28, List.forall_mem_cons.2 ⟨ok29, List.forall_mem_cons.2 ⟨ok30, List.forall_mem_cons.2 ⟨ok31, List.forall_mem_cons.2 ⟨ok32, List.forall_mem_cons.2 ⟨ok33, List.forall_mem_cons.2 ⟨ok34, List.forall_mem_cons.2 ⟨ok35, List.forall_mem_cons.2 ⟨ok36, List.forall_mem_cons.2 ⟨ok37, List.forall_mem_cons.2 ⟨ok38, List.forall_mem_cons.2 ⟨ok39, List.forall_mem_cons.2 ⟨ok40, List.forall_mem_cons.2 ⟨ok41, List.forall_mem_cons.2 ⟨ok42, List.forall_mem_cons.2 ⟨ok43, List.forall_mem_cons.2 ⟨ok44, List.forall_mem_cons.2 ⟨ok45, List.forall_mem_cons.2 ⟨ok46, List.forall_mem_cons.2 ⟨ok47, List.forall_mem_cons.2 ⟨ok48, List.forall_mem_cons.2 ⟨ok49, List.forall_mem_cons.2 ⟨ok50, List.forall_mem_cons.2 ⟨ok51, List.forall_mem_cons.2 ⟨ok52, List.forall_mem_cons.2 ⟨ok53, List.forall_mem_cons.2 ⟨ok54, List.forall_mem_cons.2 ⟨ok55, List.forall_mem_cons.2 ⟨ok56, List.forall_mem_cons.2 ⟨ok57, List.forall_mem_cons.2 ⟨ok58, List.forall_mem_cons.2 ⟨ok59, fun p hp => nomatch hp⟩⟩⟩⟩⟩⟩⟩⟩⟩⟩⟩⟩⟩⟩⟩⟩⟩⟩⟩⟩⟩⟩⟩⟩⟩⟩⟩⟩⟩⟩⟩⟩⟩⟩⟩⟩⟩⟩⟩⟩⟩⟩⟩⟩⟩⟩⟩⟩⟩⟩⟩⟩⟩⟩⟩⟩⟩
theorem envOk : EnvOk Try.prog env := ⟨fun g a _ h => envAll _ (lookup_mem h), fun g h e => (by cases e), fun g h e => (by cases e)⟩
end Go.Proofs.Ytpnknolehckfhaa
