/- MipTells: what is halved, a pyramid, what is doubled, and what is cut, are the document's: for every input. -/
import Derived.Test.YtncfdkmhpnopiaaRows
import Derived.Test.YtncfdkmhpnopiaaMTells51
import Derived.Test.YtncfdkmhpnopiaaPicArg
set_option linter.unusedVariables false
set_option linter.unusedSimpArgs false
namespace Go.Proofs.Ytncfdkmhpnopiaa
open Go Go.Ax
open Go.ChangeShapes Go.WideShapes Go.ChangeAt Go.RowKit

theorem mtells51_main (A : AMem) (vs : List Value) (h : HoldsA A [(true, [.int .i64, .int .i64, .slice [.int .i64, .int .i64, .int .i64]]), (false, [.int .i64]), (false, [.int .i64]), (false, [.int .i64]), (false, [.int .i64])] vs) :
    ∃ A', (lim env).call 5 vs A = some (.bool true, A') := by
  obtain ⟨_, _, rfl, ha, _, _, rfl, h1, _, _, rfl, h2, _, _, rfl, h3, _, _, rfl, h4, rfl⟩ := h
  obtain ⟨W, H, p, l, rfl, _, _, hp, hl⟩ := pic_holds ha
  simp only [HoldsV, HoldsL, Holds, Bool.false_eq_true, if_false] at h1 h2 h3 h4
  obtain ⟨_, _, e, ⟨x, rfl, _⟩, rfl⟩ := h1; cases e
  obtain ⟨_, _, e, ⟨y, rfl, _⟩, rfl⟩ := h2; cases e
  obtain ⟨_, _, e, ⟨w, rfl, _⟩, rfl⟩ := h3; cases e
  obtain ⟨_, _, e, ⟨u, rfl, _⟩, rfl⟩ := h4; cases e
  have := mtells51 A W H x y w u p 0 l hl hp
  rw [LL_lim] at this
  exact this

theorem mipTells_lifted (os : Os) (started : os.Started) (H : Type) (enc : TypeId × Value → H) :
    ReturnsInHanded {} Try.checked os 5 .any (Rows.mipTellsSpec.pre6 enc Try.prog Try.f5 Rows.mipTellsRow.domain false) (Rows.mipTellsSpec.post enc Try.prog Try.f5 false true false false) :=
  lifted_of_args (C := Try.checked) (E := env) (by kernel_rfl) started (by kernel_rfl) Try.func5
    (ChangeSpec.witness6 (enc := enc) (C := Try.checked) false ⟨#[], #[.agg #[.int .i64 0, .int .i64 0, .slice none 0 0], .int .i64 0, .int .i64 0, .int .i64 0, .int .i64 0], []⟩ 8 (by kernel_rfl) (by kernel_rfl) (by kernel_rfl) (by kernel_rfl))
    (by kernel_rfl) (by kernel_rfl) (by kernel_rfl : Try.f5.resultTypes = #[4]) (by kernel_rfl) rfl
    (fun ds hd => by
      match ds, hd with
      | [d1, d2, d3, d4, d5], _ => rfl) envOk (by kernel_rfl) (by kernel_rfl) mtells51_main

theorem mipTells_holds : Rows.MipTellsSaid :=
  OpenClaim.holds_of_wide 5 Try.f5 rfl rfl rfl rfl rfl rfl rfl ⟨rfl, rfl, rfl, rfl, rfl⟩ rfl rfl rfl rfl rfl (by kernel_rfl) Try.func5 (by kernel_rfl)
    (of_decide_eq_true (by kernel_rfl)) (by unfold Func.isWrapper; rw [if_neg (of_decide_eq_false (by kernel_rfl))]; exact ⟨rfl, rfl⟩)
    (fun os started H enc _ => mipTells_lifted os started H enc)


end Go.Proofs.Ytncfdkmhpnopiaa
