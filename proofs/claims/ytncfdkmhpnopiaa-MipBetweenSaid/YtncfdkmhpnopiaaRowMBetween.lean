/- MipBetween: a halved channel lies between the least and the greatest one; cut into two, a picture is both parts: for every input. -/
import Derived.Test.YtncfdkmhpnopiaaRows
import Derived.Test.YtncfdkmhpnopiaaMBetween
import Derived.Test.YtncfdkmhpnopiaaPicArg
set_option linter.unusedVariables false
set_option linter.unusedSimpArgs false
namespace Go.Proofs.Ytncfdkmhpnopiaa
open Go Go.Ax
open Go.ChangeShapes Go.WideShapes Go.ChangeAt Go.RowKit

theorem mbetween_main (A : AMem) (vs : List Value) (h : HoldsA A [(true, [.int .i64, .int .i64, .slice [.int .i64, .int .i64, .int .i64]]), (false, [.int .u8])] vs) :
    ∃ A', (lim env).call 3 vs A = some (.bool true, A') := by
  obtain ⟨_, _, rfl, ha, _, _, rfl, ht, rfl⟩ := h
  obtain ⟨W, H, p, l, rfl, _, _, hp, hl⟩ := pic_holds ha
  simp only [HoldsV, HoldsL, Holds, Bool.false_eq_true, if_false] at ht
  obtain ⟨_, _, e, ⟨x, rfl, hx⟩, rfl⟩ := ht; cases e
  have := mbetween A W H x p 0 l (bounds_u8 hx) hl hp
  rw [LL_lim] at this
  exact this

theorem mipBetween_lifted (os : Os) (started : os.Started) (H : Type) (enc : TypeId × Value → H) :
    ReturnsInHanded {} Try.checked os 3 .any (Rows.mipBetweenSpec.pre6 enc Try.prog Try.f3 Rows.mipBetweenRow.domain false) (Rows.mipBetweenSpec.post enc Try.prog Try.f3 false true false false) :=
  lifted_of_args (C := Try.checked) (E := env) (by kernel_rfl) started (by kernel_rfl) Try.func3
    (ChangeSpec.witness6 (enc := enc) (C := Try.checked) false ⟨#[], #[.agg #[.int .i64 0, .int .i64 0, .slice none 0 0], .int .u8 0], []⟩ 8 (by kernel_rfl) (by kernel_rfl) (by kernel_rfl) (by kernel_rfl))
    (by kernel_rfl) (by kernel_rfl) (by kernel_rfl : Try.f3.resultTypes = #[4]) (by kernel_rfl) rfl
    (fun ds hd => by
      match ds, hd with
      | [d1, d2], _ => rfl) envOk (by kernel_rfl) (by kernel_rfl) mbetween_main

theorem mipBetween_holds : Rows.MipBetweenSaid :=
  OpenClaim.holds_of_wide 3 Try.f3 rfl rfl rfl rfl rfl rfl rfl ⟨rfl, rfl, rfl, rfl, rfl⟩ rfl rfl rfl rfl rfl (by kernel_rfl) Try.func3 (by kernel_rfl)
    (of_decide_eq_true (by kernel_rfl)) (by unfold Func.isWrapper; rw [if_neg (of_decide_eq_false (by kernel_rfl))]; exact ⟨rfl, rfl⟩)
    (fun os started H enc _ => mipBetween_lifted os started H enc)


end Go.Proofs.Ytncfdkmhpnopiaa
