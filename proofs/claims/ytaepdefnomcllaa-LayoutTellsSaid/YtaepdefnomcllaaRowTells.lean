/- LayoutTells: whatever the layout and the numbers, the law answers true, and each argument reads as it did. No condition. -/
import Derived.Test.YtaepdefnomcllaaRows
import Derived.Test.YtaepdefnomcllaaRef31
set_option linter.unusedVariables false
set_option linter.unusedSimpArgs false
namespace Go.Proofs.Ytaepdefnomcllaa
open Go Go.Ax

theorem find_at (pn sn : Nat) (nm : Int × Int × Int) (k : Nat) (hk : k < sizeN pn sn) (h : ofZ sn (k : Nat) = nm) (hj : ∀ j : Nat, j < k → ofZ sn (j : Nat) ≠ nm) : findF sn nm (sizeN pn sn) 0 = k :=
  findF_some _ _ k h _ 0 (by omega) (by omega) hj

theorem find_no (pn sn : Nat) (nm : Int × Int × Int) (h : ∀ j : Nat, j < sizeN pn sn → ofZ sn (j : Nat) ≠ nm) : findF sn nm (sizeN pn sn) 0 = -1 :=
  findF_none _ _ _ 0 fun k _ h2 => h k (by omega)

theorem ofZ_cases (sn j : Nat) (nm : Int × Int × Int) (h : ofZ sn (j : Nat) = nm) :
    (j = 0 ∧ nm = (1, 0, 0)) ∨ (0 < j ∧ (j : Int) < 1 + sn ∧ nm = (2, (j : Int) - 1, 0)) ∨ (1 + (sn : Int) ≤ j ∧ (j : Int) < 1 + 2 * sn ∧ nm = (3, (j : Int) - (1 + sn), 0)) ∨
    (1 + 2 * (sn : Int) ≤ j ∧ nm = (4, ((j : Int) - (1 + 2 * sn)) / 3, ((j : Int) - (1 + 2 * sn)) % 3)) := by
  unfold ofZ at h
  split at h
  · exact .inl ⟨by omega, h.symm⟩
  · split at h
    · exact .inr (.inl ⟨by omega, by omega, h.symm⟩)
    · split at h
      · exact .inr (.inr (.inl ⟨by omega, by omega, h.symm⟩))
      · exact .inr (.inr (.inr ⟨by omega, h.symm⟩))

theorem find2 (pn sn : Nat) (a : Int) : findF sn (2, a, 0) (sizeN pn sn) 0 = if 0 ≤ a ∧ a < sn then 1 + a else -1 := by
  by_cases h : 0 ≤ a ∧ a < sn
  · rw [if_pos h, find_at pn sn _ (1 + a.toNat) (by unfold sizeN; omega)]
    · omega
    · unfold ofZ
      rw [if_neg (by omega), if_pos (by omega)]
      refine Prod.ext rfl (Prod.ext ?_ rfl)
      show ((1 + a.toNat : Nat) : Int) - 1 = a
      omega
    · intro j hj e
      rcases ofZ_cases _ _ _ e with ⟨_, e⟩ | ⟨_, _, e⟩ | ⟨_, _, e⟩ | ⟨_, e⟩ <;> simp only [Prod.mk.injEq] at e <;> omega
  · rw [if_neg h, find_no]
    intro j hj e
    rcases ofZ_cases _ _ _ e with ⟨_, e⟩ | ⟨_, _, e⟩ | ⟨_, _, e⟩ | ⟨_, e⟩ <;> simp only [Prod.mk.injEq] at e <;> omega

theorem find3 (pn sn : Nat) (a : Int) : findF sn (3, a, 0) (sizeN pn sn) 0 = if 0 ≤ a ∧ a < sn then 1 + sn + a else -1 := by
  by_cases h : 0 ≤ a ∧ a < sn
  · rw [if_pos h, find_at pn sn _ (1 + sn + a.toNat) (by unfold sizeN; omega)]
    · omega
    · unfold ofZ
      rw [if_neg (by omega), if_neg (by omega), if_pos (by omega)]
      refine Prod.ext rfl (Prod.ext ?_ rfl)
      show ((1 + sn + a.toNat : Nat) : Int) - (1 + sn) = a
      omega
    · intro j hj e
      rcases ofZ_cases _ _ _ e with ⟨_, e⟩ | ⟨_, _, e⟩ | ⟨_, _, e⟩ | ⟨_, e⟩ <;> simp only [Prod.mk.injEq] at e <;> omega
  · rw [if_neg h, find_no]
    intro j hj e
    rcases ofZ_cases _ _ _ e with ⟨_, e⟩ | ⟨_, _, e⟩ | ⟨_, _, e⟩ | ⟨_, e⟩ <;> simp only [Prod.mk.injEq] at e <;> omega

theorem find4 (pn sn : Nat) (a c : Int) : findF sn (4, a, c) (sizeN pn sn) 0 = if (0 ≤ a ∧ a < pn) ∧ (0 ≤ c ∧ c < 3) then 1 + 2 * sn + (3 * a + c) else -1 := by
  by_cases h : (0 ≤ a ∧ a < pn) ∧ (0 ≤ c ∧ c < 3)
  · rw [if_pos h, find_at pn sn _ (1 + 2 * sn + (3 * a + c).toNat) (by unfold sizeN; omega)]
    · omega
    · unfold ofZ
      rw [if_neg (by omega), if_neg (by omega), if_neg (by omega)]
      refine Prod.ext rfl (Prod.ext ?_ ?_) <;> simp only <;> omega
    · intro j hj e
      rcases ofZ_cases _ _ _ e with ⟨_, e⟩ | ⟨_, _, e⟩ | ⟨_, _, e⟩ | ⟨_, e⟩ <;> simp only [Prod.mk.injEq] at e <;> omega
  · rw [if_neg h, find_no]
    intro j hj e
    unfold sizeN at hj
    rcases ofZ_cases _ _ _ e with ⟨_, e⟩ | ⟨_, _, e⟩ | ⟨_, _, e⟩ | ⟨_, e⟩ <;> simp only [Prod.mk.injEq] at e <;> omega

theorem rt_nat {p s : Int} (hr : Rt p s) : ∃ pn sn : Nat, p = pn ∧ s = sn := by
  unfold Rt at hr
  exact ⟨p.toNat, s.toNat, by omega, by omega⟩

theorem find2' (p s a : Int) : ∃ M, LL.call 18 [lay p s, nam (2, a, 0)] [] = some (.int .i64 (if Rt p s ∧ 0 ≤ a ∧ a < s then 1 + a else -1), M) := by
  by_cases hr : Rt p s
  · obtain ⟨pn, sn, rfl, rfl⟩ := rt_nat hr
    obtain ⟨M, h⟩ := find_spec pn sn hr (2, a, 0)
    rw [find2] at h
    exact ⟨M, by simpa [hr] using h⟩
  · obtain ⟨M, h⟩ := find_not p s hr (2, a, 0)
    exact ⟨M, by simpa [hr] using h⟩

theorem find3' (p s a : Int) : ∃ M, LL.call 18 [lay p s, nam (3, a, 0)] [] = some (.int .i64 (if Rt p s ∧ 0 ≤ a ∧ a < s then 1 + s + a else -1), M) := by
  by_cases hr : Rt p s
  · obtain ⟨pn, sn, rfl, rfl⟩ := rt_nat hr
    obtain ⟨M, h⟩ := find_spec pn sn hr (3, a, 0)
    rw [find3] at h
    exact ⟨M, by simpa [hr] using h⟩
  · obtain ⟨M, h⟩ := find_not p s hr (3, a, 0)
    exact ⟨M, by simpa [hr] using h⟩

theorem find4' (p s a c : Int) : ∃ M, LL.call 18 [lay p s, nam (4, a, c)] [] = some (.int .i64 (if Rt p s ∧ (0 ≤ a ∧ a < p) ∧ (0 ≤ c ∧ c < 3) then 1 + 2 * s + (3 * a + c) else -1), M) := by
  by_cases hr : Rt p s
  · obtain ⟨pn, sn, rfl, rfl⟩ := rt_nat hr
    obtain ⟨M, h⟩ := find_spec pn sn hr (4, a, c)
    rw [find4] at h
    exact ⟨M, by simpa [hr] using h⟩
  · obtain ⟨M, h⟩ := find_not p s hr (4, a, c)
    exact ⟨M, by simpa [hr] using h⟩

theorem tells_tail (p s a c i : Int) (q : Option Addr) (qn qc w : Nat) (M : AMem) (h0 : Rd M 0 [.int .i64 p, .int .i64 s]) (h1 : Rd M 1 [.int .i64 p, .int .i64 s])
    (hq : (qn : Int) = if Rt p s then 1 + 2 * s + 3 * p else 0) (hw : Rd M w (encN (if Rt p s ∧ 0 ≤ i ∧ i < 1 + 2 * s + 3 * p then ofZ s i else (0, 0, 0)))) :
    ∃ M', P3_30 LL a c i q qn qc w (if Rt p s ∧ 0 ≤ a ∧ a < p then Int.tmod a s else -1) M = some (.bool true, M') := by
  rw [P3_30_eq]
  obtain ⟨_, a1⟩ := right_spec p s
  obtain ⟨_, a2⟩ := right12_spec p s
  obtain ⟨_, a3⟩ := size_spec p s
  obtain ⟨_, a4⟩ := begun_spec p s a ((Classical.em (Rt p s)).imp (fun hr => hr.2.2.2) id)
  obtain ⟨_, a5⟩ := find2' p s a
  obtain ⟨_, a6⟩ := ended_spec p s a
  obtain ⟨_, a7⟩ := find3' p s a
  obtain ⟨_, a8⟩ := channel_spec p s a c
  obtain ⟨_, a9⟩ := find4' p s a c
  obtain ⟨_, b1⟩ := stripe_spec p s a
  obtain ⟨_, b2⟩ := of_spec p s i
  obtain ⟨_, b3⟩ := awake31
  have hq' : ((if Rt p s then 1 + 2 * s + 3 * p else 0) == Int.ofNat qn) = true := by rw [← hq]; simp
  generalize (if Rt p s ∧ 0 ≤ i ∧ i < 1 + 2 * s + 3 * p then ofZ s i else (0, 0, 0)) = nm at hw b2
  obtain ⟨n0, n1, n2⟩ := nm
  simp only [h0.ld, h1.ld, hw.ld, encN, get0, get1, get2, intOf_int, boolOf_bool, Option.bind_some, a1, a2, a3, a4, a5, a6, a7, a8, a9, b1, b2, b3, beq_self_eq_true, if_true, hq', agg3, Bool.and_self]
  exact ⟨_, rfl⟩

theorem tells_mid (p s a c i : Int) (q : Option Addr) (qn qc w : Nat) (M : AMem) (h0 : Rd M 0 [.int .i64 p, .int .i64 s]) (h1 : Rd M 1 [.int .i64 p, .int .i64 s])
    (hq : (qn : Int) = if Rt p s then 1 + 2 * s + 3 * p else 0) (hw : Rd M w (encN (if Rt p s ∧ 0 ≤ i ∧ i < 1 + 2 * s + 3 * p then ofZ s i else (0, 0, 0)))) :
    ∃ M', P3_22 LL a c i q qn qc w M = some (.bool true, M') := by
  rw [P3_22_eq]
  obtain ⟨_, a2⟩ := right12_spec p s
  have := tells_tail p s a c i q qn qc w M h0 h1 hq hw
  by_cases hr : Rt p s
  · by_cases c1 : 0 ≤ a
    · by_cases c2 : a < p
      · have : ¬ s = 0 := by unfold Rt at hr; omega
        simp_all [h0.ld]
      · simp_all [h0.ld, show ¬ a < p by omega]
    · simp_all [h0.ld, show ¬ 0 ≤ a by omega]
  · simp_all [h0.ld]

theorem tells (p s a c i : Int) : ∃ M', LL.call 3 [lay p s, .int .i64 a, .int .i64 c, .int .i64 i] [] = some (.bool true, M') := by
  rw [L_call3, E3]
  obtain ⟨_, a1⟩ := of31 p s
  obtain ⟨_, a2⟩ := right12_spec p s
  obtain ⟨_, a3⟩ := awake31
  simp only [a1, a2, a3, Option.bind_some, agg2, get0, get1, intOf_int, boolOf_bool]
  by_cases hr : Rt p s
  · simp only [hr, decide_true, if_true]
    by_cases c1 : p > 40
    · simp only [c1, decide_true, if_true]; exact ⟨_, rfl⟩
    · by_cases c2 : s > 10
      · simp only [c1, c2, decide_true, decide_false, Bool.false_eq_true, if_false, if_true]; exact ⟨_, rfl⟩
      · simp only [c1, c2, decide_false, Bool.false_eq_true, if_false]
        obtain ⟨pn, sn, rfl, rfl⟩ := rt_nat hr
        obtain ⟨M1, q, qc, h1, h2, h3⟩ := all_spec pn sn hr [AObj.cells [.int .i64 (pn : Int), .int .i64 (sn : Int)] ⟨false, 0⟩, AObj.cells [.int .i64 (pn : Int), .int .i64 (sn : Int)] ⟨false, 1⟩]
        have g0 : Rd M1 0 [.int .i64 (pn : Int), .int .i64 (sn : Int)] := Rd.same (M := [AObj.cells [.int .i64 (pn : Int), .int .i64 (sn : Int)] ⟨false, 0⟩, AObj.cells [.int .i64 (pn : Int), .int .i64 (sn : Int)] ⟨false, 1⟩]) ⟨_, rfl⟩ h3 (by simp)
        have g1 : Rd M1 1 [.int .i64 (pn : Int), .int .i64 (sn : Int)] := Rd.same (M := [AObj.cells [.int .i64 (pn : Int), .int .i64 (sn : Int)] ⟨false, 0⟩, AObj.cells [.int .i64 (pn : Int), .int .i64 (sn : Int)] ⟨false, 1⟩]) ⟨_, rfl⟩ h3 (by simp)
        obtain ⟨b, rfl, h4⟩ := h2.pos (by unfold sizeN; omega)
        have s1 := same_app M1 [AObj.cells [.int .i64 0, .int .i64 0, .int .i64 0] ⟨false, 0⟩]
        have hw := cells_new M1 [.int .i64 0, .int .i64 0, .int .i64 0] 0
        obtain ⟨M2, k1, k2, k3, k4⟩ := hw.wr (o := 0) (vs := [.int .i64 0, .int .i64 0, .int .i64 0]) (by simp)
        have hN : ((sizeN pn sn : Nat) : Int) = (if Rt pn sn then 1 + 2 * (sn : Int) + 3 * (pn : Int) else 0) := by rw [if_pos hr]; unfold sizeN; omega
        have f0 := (g0.same s1 (by simp)).same k3 (by have := g0.lt; simp; omega)
        have f1 := (g1.same s1 (by simp)).same k3 (by have := g1.lt; simp; omega)
        have fa := (h4.rd.same s1 (by simp)).same k3 (by have := h4.lt; simp; omega)
        simp only [h1, Option.bind_some, sliceOf_slice, k1]
        by_cases c3 : i ≥ 0
        · by_cases c4 : i < Int.ofNat (sizeN pn sn)
          · obtain ⟨M3, j1, j2, j3, j4⟩ := k2.wr (o := 0) (vs := encN (ofZ sn i)) (by simp [wrL, encN])
            have hin : i = ((i.toNat : Nat) : Int) := by omega
            have c4' : i < (sizeN pn sn : Nat) := c4
            have e0 := names_get sn (sizeN pn sn) i.toNat 0 (by omega) (by omega)
            have e1 := names_get sn (sizeN pn sn) i.toNat 1 (by omega) (by omega)
            have e2 := names_get sn (sizeN pn sn) i.toNat 2 (by omega) (by omega)
            rw [← hin] at e0 e1 e2
            simp only [encN, get0, get1, get2, Nat.add_zero] at e0 e1 e2
            unfold encN at j1
            have c3' : 0 ≤ i := c3
            simp only [c3, c3', c4, decide_true, if_true, and_self, Nat.zero_add, fa.ld, e0, e1, e2, intOf_int, Option.bind_some, j1]
            refine tells_mid _ _ a c i _ _ _ _ _ (f0.same j3 (by have := g0.lt; simp; omega)) (f1.same j3 (by have := g1.lt; simp; omega)) hN ?_
            have : (Rt pn sn ∧ 0 ≤ i ∧ i < 1 + 2 * (sn : Int) + 3 * pn) := ⟨hr, c3, by rw [if_pos hr] at hN; omega⟩
            rw [if_pos this]
            simpa [wrL, encN] using j2.rd
          · have : ¬ (Rt pn sn ∧ 0 ≤ i ∧ i < 1 + 2 * (sn : Int) + 3 * pn) := fun h => c4 (by rw [if_pos hr] at hN; show i < (sizeN pn sn : Nat); omega)
            simp only [c3, c4, decide_true, decide_false, Bool.false_eq_true, if_false, if_true]
            refine tells_mid _ _ a c i _ _ _ _ _ f0 f1 hN ?_
            rw [if_neg this]
            simpa [wrL, encN] using k2.rd
        · have : ¬ (Rt pn sn ∧ 0 ≤ i ∧ i < 1 + 2 * (sn : Int) + 3 * pn) := fun h => c3 h.2.1
          simp only [c3, decide_false, Bool.false_eq_true, if_false]
          refine tells_mid _ _ a c i _ _ _ _ _ f0 f1 hN ?_
          rw [if_neg this]
          simpa [wrL, encN] using k2.rd
  · simp only [hr, decide_false, Bool.false_eq_true, if_false]
    obtain ⟨M1, h1, h3⟩ := all_not p s hr [AObj.cells [.int .i64 p, .int .i64 s] ⟨false, 0⟩, AObj.cells [.int .i64 p, .int .i64 s] ⟨false, 1⟩]
    have g0 : Rd M1 0 [.int .i64 p, .int .i64 s] := Rd.same (M := [AObj.cells [.int .i64 p, .int .i64 s] ⟨false, 0⟩, AObj.cells [.int .i64 p, .int .i64 s] ⟨false, 1⟩]) ⟨_, rfl⟩ h3 (by simp)
    have g1 : Rd M1 1 [.int .i64 p, .int .i64 s] := Rd.same (M := [AObj.cells [.int .i64 p, .int .i64 s] ⟨false, 0⟩, AObj.cells [.int .i64 p, .int .i64 s] ⟨false, 1⟩]) ⟨_, rfl⟩ h3 (by simp)
    have s1 := same_app M1 [AObj.cells [.int .i64 0, .int .i64 0, .int .i64 0] ⟨false, 0⟩]
    have hw := cells_new M1 [.int .i64 0, .int .i64 0, .int .i64 0] 0
    obtain ⟨M2, k1, k2, k3, k4⟩ := hw.wr (o := 0) (vs := [.int .i64 0, .int .i64 0, .int .i64 0]) (by simp)
    have f0 := (g0.same s1 (by simp)).same k3 (by have := g0.lt; simp; omega)
    have f1 := (g1.same s1 (by simp)).same k3 (by have := g1.lt; simp; omega)
    have : ¬ (Rt p s ∧ 0 ≤ i ∧ i < 1 + 2 * s + 3 * p) := fun h => hr h.1
    have key := fun q qc => tells_mid p s a c i q 0 qc M1.length M2 f0 f1 (by rw [if_neg hr]; rfl) (by rw [if_neg this]; simpa [wrL, encN] using k2.rd)
    simp only [h1, Option.bind_some, sliceOf_slice, k1]
    by_cases c3 : i ≥ 0
    · have c4 : ¬ i < Int.ofNat 0 := by show ¬ i < (0 : Int); omega
      simp only [c3, c4, decide_true, decide_false, Bool.false_eq_true, if_false, if_true]
      exact key _ _
    · simp only [c3, decide_false, Bool.false_eq_true, if_false]
      exact key _ _

open Go.ChangeShapes Go.WideShapes Go.ChangeAt Go.RowKit

theorem tells_main (vs : List Value) (h : HoldsA [] [(true, [.int .i64, .int .i64]), (false, [.int .i64]), (false, [.int .i64]), (false, [.int .i64])] vs) :
    ∃ A', (lim env).call 3 vs [] = some (.bool true, A') := by
  simp only [HoldsA, HoldsV, HoldsL, Holds, if_true, Bool.false_eq_true, if_false] at h
  obtain ⟨_, _, rfl, ⟨cs, rfl, _, _, hcs, ⟨p, rfl, hp⟩, _, _, rfl, ⟨s, rfl, hs⟩, rfl⟩, _, _, rfl, ⟨_, _, e1, ⟨i, rfl, hi⟩, rfl⟩, _, _, rfl, ⟨_, _, e2, ⟨q, rfl, hq⟩, rfl⟩, _, _, rfl, ⟨_, _, e3, ⟨r, rfl, hr⟩, rfl⟩, rfl⟩ := h
  obtain rfl : cs = #[.int .i64 p, .int .i64 s] := Array.toList_inj.1 hcs
  cases e1; cases e2; cases e3
  have := tells p s i q r
  rw [LL_lim] at this
  exact this

theorem layoutTells_lifted (os : Os) (started : os.Started) (H : Type) (enc : TypeId × Value → H) :
    ReturnsInHanded {} Try.checked os 3 .any (Rows.layoutTellsSpec.pre6 enc Try.prog Try.f3 Rows.layoutTellsRow.domain false) (Rows.layoutTellsSpec.post enc Try.prog Try.f3 false true false false) :=
  lifted_of_flat (C := Try.checked) (E := env) (by kernel_rfl) started (by kernel_rfl) Try.func3
    (ChangeSpec.witness6 (enc := enc) (C := Try.checked) false ⟨#[], #[.agg #[.int .i64 0, .int .i64 0], .int .i64 0, .int .i64 0, .int .i64 0], []⟩ 8 (by kernel_rfl) (by kernel_rfl) (by kernel_rfl) (by kernel_rfl))
    (by kernel_rfl) (by kernel_rfl) (by kernel_rfl : Try.f3.resultTypes = #[4]) (by kernel_rfl) rfl
    (fun ds hd => by
      match ds, hd with
      | [d1, d2, d3, d4], _ => rfl) envOk (by kernel_rfl) (by kernel_rfl) (by kernel_rfl) tells_main

theorem layoutTells_holds : Rows.LayoutTellsSaid :=
  OpenClaim.holds_of_wide 3 Try.f3 rfl rfl rfl rfl rfl rfl rfl ⟨rfl, rfl, rfl, rfl, rfl⟩ rfl rfl rfl rfl rfl (by kernel_rfl) Try.func3 (by kernel_rfl)
    (of_decide_eq_true (by kernel_rfl)) (by unfold Func.isWrapper; rw [if_neg (of_decide_eq_false (by kernel_rfl))]; exact ⟨rfl, rfl⟩)
    (fun os started H enc _ => layoutTells_lifted os started H enc)


end Go.Proofs.Ytaepdefnomcllaa
