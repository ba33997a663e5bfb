/- DiffThree: of three pictures of the same sides that may be, how unlike they are keeps the law's lines: for every input. -/
import Derived.Test.YtkjgmcjdblhkeaaRows
import Derived.Test.YtkjgmcjdblhkeaaDThree
import Derived.Test.YtkjgmcjdblhkeaaPicArg
set_option linter.unusedVariables false
set_option linter.unusedSimpArgs false
namespace Go.Proofs.Ytkjgmcjdblhkeaa
open Go Go.Ax
open Go.ChangeShapes Go.WideShapes Go.ChangeAt Go.RowKit

theorem dthree_main (A : AMem) (vs : List Value) (h : HoldsA A [(true, [.int .i64, .int .i64, .slice [.int .i64, .int .i64, .int .i64]]), (true, [.int .i64, .int .i64, .slice [.int .i64, .int .i64, .int .i64]]), (true, [.int .i64, .int .i64, .slice [.int .i64, .int .i64, .int .i64]]), (false, [.int .u16])] vs) :
    ∃ A', (lim env).call 4 vs A = some (.bool true, A') := by
  obtain ⟨_, _, rfl, ha, _, _, rfl, hb, _, _, rfl, hc, _, _, rfl, ht, rfl⟩ := h
  obtain ⟨Wa, Ha, p, la, rfl, _, _, hp, hla⟩ := pic_holds ha
  obtain ⟨Wb, Hb, q, lb, rfl, _, _, hq, hlb⟩ := pic_holds hb
  obtain ⟨Wc, Hc, r, lc, rfl, _, _, hr, hlc⟩ := pic_holds hc
  simp only [HoldsV, HoldsL, Holds, Bool.false_eq_true, if_false] at ht
  obtain ⟨_, _, e, ⟨x, rfl, hx⟩, rfl⟩ := ht; cases e
  have := dthree A Wa Ha Wb Hb Wc Hc x p q r 0 0 0 la lb lc (bounds_u16 hx) hla hlb hlc hp hq hr
  rw [LL_lim] at this
  exact this

theorem diffThree_lifted (os : Os) (started : os.Started) (H : Type) (enc : TypeId × Value → H) :
    ReturnsInHanded {} Try.checked os 4 .any (Rows.diffThreeSpec.pre6 enc Try.prog Try.f4 Rows.diffThreeRow.domain false) (Rows.diffThreeSpec.post enc Try.prog Try.f4 false true false false) :=
  lifted_of_args (C := Try.checked) (E := env) (by kernel_rfl) started (by kernel_rfl) Try.func4
    (ChangeSpec.witness6 (enc := enc) (C := Try.checked) false ⟨#[], #[.agg #[.int .i64 0, .int .i64 0, .slice none 0 0], .agg #[.int .i64 0, .int .i64 0, .slice none 0 0], .agg #[.int .i64 0, .int .i64 0, .slice none 0 0], .int .u16 0], []⟩ 8 (by kernel_rfl) (by kernel_rfl) (by kernel_rfl) (by kernel_rfl))
    (by kernel_rfl) (by kernel_rfl) (by kernel_rfl : Try.f4.resultTypes = #[4]) (by kernel_rfl) rfl
    (fun ds hd => by
      match ds, hd with
      | [d1, d2, d3, d4], _ => rfl) envOk (by kernel_rfl) (by kernel_rfl) dthree_main

theorem diffThree_holds : Rows.DiffThreeSaid :=
  OpenClaim.holds_of_wide 4 Try.f4 rfl rfl rfl rfl rfl rfl rfl ⟨rfl, rfl, rfl, rfl, rfl⟩ rfl rfl rfl rfl rfl (by kernel_rfl) Try.func4 (by kernel_rfl)
    (of_decide_eq_true (by kernel_rfl)) (by unfold Func.isWrapper; rw [if_neg (of_decide_eq_false (by kernel_rfl))]; exact ⟨rfl, rfl⟩)
    (fun os started H enc _ => diffThree_lifted os started H enc)


end Go.Proofs.Ytkjgmcjdblhkeaa
