/- DiffTells: how unlike any pictures are, where, what is applied, what is between, and the mean, are the document's: for every input. -/
import Derived.Test.YtkjgmcjdblhkeaaRows
import Derived.Test.YtkjgmcjdblhkeaaDTells
import Derived.Test.YtkjgmcjdblhkeaaPicArg
set_option linter.unusedVariables false
set_option linter.unusedSimpArgs false
namespace Go.Proofs.Ytkjgmcjdblhkeaa
open Go Go.Ax
open Go.ChangeShapes Go.WideShapes Go.ChangeAt Go.RowKit

theorem dtells_main (A : AMem) (vs : List Value) (h : HoldsA A [(true, [.int .i64, .int .i64, .slice [.int .i64, .int .i64, .int .i64]]), (true, [.int .i64, .int .i64, .slice [.int .i64, .int .i64, .int .i64]]), (false, [.slice [.int .i64]]), (false, [.int .i64]), (false, [.int .i64])] vs) :
    ∃ A', (lim env).call 3 vs A = some (.bool true, A') := by
  obtain ⟨_, _, rfl, ha, _, _, rfl, hb, _, _, rfl, hs, _, _, rfl, hn, _, _, rfl, ht, rfl⟩ := h
  obtain ⟨Wa, Ha, p, la, rfl, _, _, hp, hla⟩ := pic_holds ha
  obtain ⟨Wb, Hb, q, lb, rfl, _, _, hq, hlb⟩ := pic_holds hb
  unfold HoldsV at hs
  rw [if_neg (by simp)] at hs
  obtain ⟨v', _, e, hs, h'⟩ := holdsL_cons hs
  cases e
  obtain ⟨w, lw, rfl, h1, h2, h3⟩ := holds_list (fun x => [Value.int .i64 x]) (fun _ => True) (by simp) hs fun cs hc => by
    simp only [HoldsL, Holds] at hc
    obtain ⟨_, _, rfl, ⟨x0, rfl, hx⟩, rfl⟩ := hc
    exact ⟨x0, trivial, rfl⟩
  simp only [HoldsV, HoldsL, Holds, Bool.false_eq_true, if_false] at hn ht
  obtain ⟨_, _, e, ⟨pt, rfl, hx⟩, rfl⟩ := hn; cases e
  obtain ⟨_, _, e, ⟨sq, rfl, hy⟩, rfl⟩ := ht; cases e
  have := dtells A Wa Ha Wb Hb pt sq p q w 0 0 0 la lb lw (bounds_i64 hy) hp hq h1.rdI
  rw [LL_lim] at this
  exact this

theorem diffTells_lifted (os : Os) (started : os.Started) (H : Type) (enc : TypeId × Value → H) :
    ReturnsInHanded {} Try.checked os 3 .any (Rows.diffTellsSpec.pre6 enc Try.prog Try.f3 Rows.diffTellsRow.domain false) (Rows.diffTellsSpec.post enc Try.prog Try.f3 false true false false) :=
  lifted_of_args (C := Try.checked) (E := env) (by kernel_rfl) started (by kernel_rfl) Try.func3
    (ChangeSpec.witness6 (enc := enc) (C := Try.checked) false ⟨#[], #[.agg #[.int .i64 0, .int .i64 0, .slice none 0 0], .agg #[.int .i64 0, .int .i64 0, .slice none 0 0], .slice none 0 0, .int .i64 0, .int .i64 0], []⟩ 8 (by kernel_rfl) (by kernel_rfl) (by kernel_rfl) (by kernel_rfl))
    (by kernel_rfl) (by kernel_rfl) (by kernel_rfl : Try.f3.resultTypes = #[4]) (by kernel_rfl) rfl
    (fun ds hd => by
      match ds, hd with
      | [d1, d2, d3, d4, d5], _ => rfl) envOk (by kernel_rfl) (by kernel_rfl) dtells_main

theorem diffTells_holds : Rows.DiffTellsSaid :=
  OpenClaim.holds_of_wide 3 Try.f3 rfl rfl rfl rfl rfl rfl rfl ⟨rfl, rfl, rfl, rfl, rfl⟩ rfl rfl rfl rfl rfl (by kernel_rfl) Try.func3 (by kernel_rfl)
    (of_decide_eq_true (by kernel_rfl)) (by unfold Func.isWrapper; rw [if_neg (of_decide_eq_false (by kernel_rfl))]; exact ⟨rfl, rfl⟩)
    (fun os started H enc _ => diffTells_lifted os started H enc)


end Go.Proofs.Ytkjgmcjdblhkeaa
