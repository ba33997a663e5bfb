/- CellCounts: whatever the order, the law answers true, and the argument reads as it did. No condition. -/
import Derived.Test.YtaepdefnomcllaaRows
import Derived.Test.YtaepdefnomcllaaLaw30
set_option linter.unusedVariables false
set_option linter.unusedSimpArgs false
namespace Go.Proofs.Ytaepdefnomcllaa
open Go Go.Ax Go.ChangeShapes Go.WideShapes Go.ChangeAt Go.RowKit

theorem counts (M : AMem) (p : Option Addr) (l : List Int) (hp : RdI M .u8 p l.length l) (hl : ∀ x ∈ l, 0 ≤ x ∧ x ≤ 255) (hb : 0 < l.length → ∀ x ∈ blk p, x < M.length) :
    ∃ M', LL.call 6 [.slice p l.length 0] M = some (.bool true, M') := by
  rw [L_call6, E6]
  obtain ⟨_, h0⟩ := awake30
  by_cases hn : Int.ofNat l.length > 100
  · simp only [hn, decide_true, if_true, h0, Option.bind_some, boolOf_bool]
    exact ⟨_, rfl⟩
  · obtain ⟨M1, b, a, h1, h2, h3, h4, h5, h6, h7⟩ := new_spec 3 M (by omega)
    simp only [hn, decide_false, Bool.false_eq_true, if_false, h1, Option.bind_some, ptrOf_ptr, Option.isNone_some]
    have g1 := cells_new M1 (ints .u64 [0, 0, 0, 0, 0, 0, 0, 0]) 0
    have s1 := same_app M1 [AObj.cells (ints .u64 [0, 0, 0, 0, 0, 0, 0, 0]) ⟨false, 0⟩]
    have hM2 : (M1 ++ [AObj.cells (ints .u64 [0, 0, 0, 0, 0, 0, 0, 0]) ⟨false, 0⟩]).length = M1.length + 1 := by simp
    generalize hM2e : M1 ++ [AObj.cells (ints .u64 [0, 0, 0, 0, 0, 0, 0, 0]) ⟨false, 0⟩] = M2 at g1 s1 hM2
    have g2 := cells_new M2 (bools [false, false, false, false, false, false, false, false]) 0
    have s2 := same_app M2 [AObj.cells (bools [false, false, false, false, false, false, false, false]) ⟨false, 0⟩]
    have hm := (h2.same s1 (by simp) (by simp)).same s2 (by simp) (by simp)
    have hle := h3.le
    have hall := (h3.trans s1).trans s2
    by_cases hz : l.length = 0
    · obtain ⟨M', g⟩ := counts_loop (p := none) (n := 0) (c := 0) (b := b) (a := a) (s := M1.length) (r := M2.length) (l := []) (by omega) (by simp) 0 0 0 _ _ _ rfl
        ⟨⟨rfl, fun h => by omega⟩, by simp, hm, g1.same s2 (by simp), g2, rfl, rfl, by simp; omega, Nat.le_refl _⟩
      have hl0 : l = [] := List.eq_nil_of_length_eq_zero hz
      subst hl0
      rw [P6_30_eq LL L_loop] at g ⊢
      subst hM2e
      refine ⟨M', ?_⟩
      have : ¬ ((0 : Int) < Int.ofNat 0) := by decide
      simp only [List.length_nil, this, decide_false, Bool.false_eq_true, if_false, Int.natCast_zero] at g ⊢
      rw [P6_79_eq] at g ⊢
      exact g
    · obtain ⟨M', g⟩ := counts_loop (p := p) (n := l.length) (c := 0) (b := b) (a := a) (s := M1.length) (r := M2.length) (l := l) (by have := ofN l.length; omega) hl l.length 0 0 _ _ _ (by omega)
        ⟨hp.same hall (by simp), fun x hx => by have := hb (by omega) x hx; simp; omega, hm, g1.same s2 (by simp), g2, rfl, rfl, by simp; omega, Nat.le_refl _⟩
      subst hM2e
      exact ⟨M', g⟩

theorem counts_main (A : AMem) (vs : List Value) (h : HoldsA A [(false, [.slice [.int .u8]])] vs) : ∃ A', (lim env).call 6 vs A = some (.bool true, A') := by
  obtain ⟨v, _, rfl, h, rfl⟩ := h
  unfold HoldsV at h
  rw [if_neg (by simp)] at h
  obtain ⟨v', _, e, h, h'⟩ := holdsL_cons h
  cases e
  obtain ⟨p, l, rfl, h1, h2, h3⟩ := holds_list (fun x => [.int .u8 x]) (fun x => (Lit.int .u8 x).wf = true) (by simp) h fun cs hc => by
    obtain ⟨v, r, rfl, hv, hr⟩ := holdsL_cons hc
    simp only [Holds, HoldsL] at hv hr
    obtain ⟨n, rfl, hw⟩ := hv
    exact ⟨n, hw, by rw [hr]⟩
  have := counts A p l h1.rdI (fun x hx => bounds_u8 (h2 x hx)) (fun hn => h1.lt hn)
  rw [LL_lim] at this
  exact this

theorem cellCounts_lifted (os : Os) (started : os.Started) (H : Type) (enc : TypeId × Value → H) :
    ReturnsInHanded {} Try.checked os 6 .any (Rows.cellCountsSpec.pre6 enc Try.prog Try.f6 Rows.cellCountsRow.domain false) (Rows.cellCountsSpec.post enc Try.prog Try.f6 false true false false) :=
  lifted_of_args (C := Try.checked) (E := env) (by kernel_rfl) started (by kernel_rfl) Try.func6
    (ChangeSpec.witness6 (enc := enc) (C := Try.checked) false ⟨#[], #[.slice none 0 0], []⟩ 8 (by kernel_rfl) (by kernel_rfl) (by kernel_rfl) (by kernel_rfl))
    (by kernel_rfl) (by kernel_rfl) (by kernel_rfl : Try.f6.resultTypes = #[4]) (by kernel_rfl) rfl
    (fun ds hd => by
      match ds, hd with
      | [d1], _ => rfl) envOk (by kernel_rfl) (by kernel_rfl) counts_main

theorem cellCounts_holds : Rows.CellCountsSaid :=
  OpenClaim.holds_of_wide 6 Try.f6 rfl rfl rfl rfl rfl rfl rfl ⟨rfl, rfl, rfl, rfl, rfl⟩ rfl rfl rfl rfl rfl (by kernel_rfl) Try.func6 (by kernel_rfl)
    (of_decide_eq_true (by kernel_rfl)) (by unfold Func.isWrapper; rw [if_neg (of_decide_eq_false (by kernel_rfl))]; exact ⟨rfl, rfl⟩)
    (fun os started H enc _ => cellCounts_lifted os started H enc)


end Go.Proofs.Ytaepdefnomcllaa
