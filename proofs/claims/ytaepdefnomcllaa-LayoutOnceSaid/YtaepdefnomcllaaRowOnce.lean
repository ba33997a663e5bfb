/- LayoutOnce: whatever the layout, the cell and the pixel, the law answers true, and each argument reads as it did. No condition. -/
import Derived.Test.YtaepdefnomcllaaRows
import Derived.Test.YtaepdefnomcllaaLaw31
import Derived.Test.YtaepdefnomcllaaAxArg
set_option linter.unusedVariables false
namespace Go.Proofs.Ytaepdefnomcllaa
open Go Go.Ax Go.ChangeShapes Go.WideShapes Go.ChangeAt Go.RowKit

theorem once_main (vs : List Value) (h : HoldsA [] [(true, [.int .i64, .int .i64]), (false, [.int .u32]), (false, [.int .u16])] vs) :
    ∃ A', (lim env).call 4 vs [] = some (.bool true, A') := by
  simp only [HoldsA, HoldsV, HoldsL, Holds, if_true, Bool.false_eq_true, if_false] at h
  obtain ⟨_, _, rfl, ⟨cs, rfl, _, _, hcs, ⟨p, rfl, hp⟩, _, _, rfl, ⟨s, rfl, hs⟩, rfl⟩, _, _, rfl, ⟨_, _, e1, ⟨i, rfl, hi⟩, rfl⟩, _, _, rfl, ⟨_, _, e2, ⟨q, rfl, hq⟩, rfl⟩, rfl⟩ := h
  obtain rfl : cs = #[.int .i64 p, .int .i64 s] := Array.toList_inj.1 hcs
  cases e1; cases e2
  have := once p s i q (bounds_u32 hi) (bounds_u16 hq)
  rw [LL_lim] at this
  exact this

theorem layoutOnce_lifted (os : Os) (started : os.Started) (H : Type) (enc : TypeId × Value → H) :
    ReturnsInHanded {} Try.checked os 4 .any (Rows.layoutOnceSpec.pre6 enc Try.prog Try.f4 Rows.layoutOnceRow.domain false) (Rows.layoutOnceSpec.post enc Try.prog Try.f4 false true false false) :=
  lifted_of_flat (C := Try.checked) (E := env) (by kernel_rfl) started (by kernel_rfl) Try.func4
    (ChangeSpec.witness6 (enc := enc) (C := Try.checked) false ⟨#[], #[.agg #[.int .i64 0, .int .i64 0], .int .u32 0, .int .u16 0], []⟩ 8 (by kernel_rfl) (by kernel_rfl) (by kernel_rfl) (by kernel_rfl))
    (by kernel_rfl) (by kernel_rfl) (by kernel_rfl : Try.f4.resultTypes = #[4]) (by kernel_rfl) rfl
    (fun ds hd => by
      match ds, hd with
      | [a, b, c], _ => rfl) envOk (by kernel_rfl) (by kernel_rfl) (by kernel_rfl) once_main

theorem layoutOnce_holds : Rows.LayoutOnceSaid :=
  OpenClaim.holds_of_wide 4 Try.f4 rfl rfl rfl rfl rfl rfl rfl ⟨rfl, rfl, rfl, rfl, rfl⟩ rfl rfl rfl rfl rfl (by kernel_rfl) Try.func4 (by kernel_rfl)
    (of_decide_eq_true (by kernel_rfl)) (by unfold Func.isWrapper; rw [if_neg (of_decide_eq_false (by kernel_rfl))]; exact ⟨rfl, rfl⟩)
    (fun os started H enc _ => layoutOnce_lifted os started H enc)

end Go.Proofs.Ytaepdefnomcllaa
