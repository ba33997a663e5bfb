/- MipBack: what is doubled and halved again is as it was; a pyramid's sides are halves, down to one pixel: for every input. -/
import Derived.Test.YtncfdkmhpnopiaaRows
import Derived.Test.YtncfdkmhpnopiaaMBack
import Derived.Test.YtncfdkmhpnopiaaPicArg
set_option linter.unusedVariables false
set_option linter.unusedSimpArgs false
namespace Go.Proofs.Ytncfdkmhpnopiaa
open Go Go.Ax
open Go.ChangeShapes Go.WideShapes Go.ChangeAt Go.RowKit

theorem mback51_main (A : AMem) (vs : List Value) (h : HoldsA A [(true, [.int .i64, .int .i64, .slice [.int .i64, .int .i64, .int .i64]]), (false, [.bool]), (false, [.bool])] vs) :
    ∃ A', (lim env).call 4 vs A = some (.bool true, A') := by
  obtain ⟨_, _, rfl, ha, _, _, rfl, ht, _, _, rfl, hu, rfl⟩ := h
  obtain ⟨W, H, p, l, rfl, _, _, hp, hl⟩ := pic_holds ha
  simp only [HoldsV, HoldsL, Holds, Bool.false_eq_true, if_false] at ht hu
  obtain ⟨_, _, e, ⟨x, rfl⟩, rfl⟩ := ht; cases e
  obtain ⟨_, _, e, ⟨y, rfl⟩, rfl⟩ := hu; cases e
  have := mback51 A W H x y p 0 l hl hp
  rw [LL_lim] at this
  exact this

theorem mipBack_lifted (os : Os) (started : os.Started) (H : Type) (enc : TypeId × Value → H) :
    ReturnsInHanded {} Try.checked os 4 .any (Rows.mipBackSpec.pre6 enc Try.prog Try.f4 Rows.mipBackRow.domain false) (Rows.mipBackSpec.post enc Try.prog Try.f4 false true false false) :=
  lifted_of_args (C := Try.checked) (E := env) (by kernel_rfl) started (by kernel_rfl) Try.func4
    (ChangeSpec.witness6 (enc := enc) (C := Try.checked) false ⟨#[], #[.agg #[.int .i64 0, .int .i64 0, .slice none 0 0], .bool false, .bool false], []⟩ 8 (by kernel_rfl) (by kernel_rfl) (by kernel_rfl) (by kernel_rfl))
    (by kernel_rfl) (by kernel_rfl) (by kernel_rfl : Try.f4.resultTypes = #[4]) (by kernel_rfl) rfl
    (fun ds hd => by
      match ds, hd with
      | [d1, d2, d3], _ => rfl) envOk (by kernel_rfl) (by kernel_rfl) mback51_main

theorem mipBack_holds : Rows.MipBackSaid :=
  OpenClaim.holds_of_wide 4 Try.f4 rfl rfl rfl rfl rfl rfl rfl ⟨rfl, rfl, rfl, rfl, rfl⟩ rfl rfl rfl rfl rfl (by kernel_rfl) Try.func4 (by kernel_rfl)
    (of_decide_eq_true (by kernel_rfl)) (by unfold Func.isWrapper; rw [if_neg (of_decide_eq_false (by kernel_rfl))]; exact ⟨rfl, rfl⟩)
    (fun os started H enc _ => mipBack_lifted os started H enc)


end Go.Proofs.Ytncfdkmhpnopiaa
