/- Pictures: the program's own check; which are one. -/
import Derived.Test.YtncfdkmhpnopiaaPic
set_option linter.unusedVariables false
set_option linter.unusedSimpArgs false
namespace Go.Proofs.Ytncfdkmhpnopiaa
open Go Go.Ax

theorem same41_loop {Wa Ha Wb Hb : Int} {p q : Option Addr} {c d : Nat} {la lb : List Px} (hn : la.length = lb.length) (hl : la.length ≤ 9223372036854775807) {M : AMem} {a b : Nat} (ha : Cells M a [.int .i64 Wa, .int .i64 Ha, .slice p la.length c]) (hb : Cells M b [.int .i64 Wb, .int .i64 Hb, .slice q lb.length d])
    (hp : RdL M encP p la.length la) (hq : RdL M encP q lb.length lb) :
    ∀ (k i : Nat), i + k = la.length → P12_14 LL a b i M = some (.bool (decide (la.drop i = lb.drop i)), M) := by
  have a2 : M.ld a 2 = some (.slice p la.length c) := ha.ld 2
  have b2 : M.ld b 2 = some (.slice q lb.length d) := hb.ld 2
  intro k
  induction k with
  | zero =>
    intro i hi
    obtain rfl : i = la.length := by omega
    rw [P12_14_eq LL L_loop]
    have : ¬ ((la.length : Int) < Int.ofNat la.length) := by rw [ofN]; omega
    have h2 : lb.drop la.length = [] := List.drop_eq_nil_of_le (by omega)
    simp only [a2, sliceOf_slice, Option.bind_some, this, decide_false, Bool.false_eq_true, if_false, P12_31_eq, List.drop_length, h2, decide_true]
  | succ k ih =>
    intro i hi
    have hia : i < la.length := by omega
    have hib : i < lb.length := by omega
    obtain ⟨pa, rfl, hpa⟩ := hp.2 (by omega)
    obtain ⟨pb, rfl, hpb⟩ := hq.2 (by omega)
    obtain ⟨x, hx⟩ : ∃ x, la[i]? = some x := ⟨_, List.getElem?_eq_getElem hia⟩
    obtain ⟨y, hy⟩ : ∃ y, lb[i]? = some y := ⟨_, List.getElem?_eq_getElem hib⟩
    obtain ⟨e0, e1, e2⟩ := px_ld hpa hx
    obtain ⟨f0, f1, f2⟩ := px_ld hpb hy
    have hlt : (i : Int) < Int.ofNat la.length := by rw [ofN]; omega
    have hlt2 : (i : Int) < Int.ofNat lb.length := by rw [ofN]; omega
    have h0 : (0 : Int) ≤ (i : Int) := by omega
    have hw : IntKind.wrap .i64 ((i : Int) + 1) = ((i + 1 : Nat) : Int) := by rw [w64 (by omega)]; rfl
    have da : la.drop i = x :: la.drop (i + 1) := by
      rw [List.drop_eq_getElem_cons hia]; congr 1; exact (List.getElem?_eq_some_iff.1 hx).2
    have db : lb.drop i = y :: lb.drop (i + 1) := by
      rw [List.drop_eq_getElem_cons hib]; congr 1; exact (List.getElem?_eq_some_iff.1 hy).2
    rw [P12_14_eq LL L_loop]
    simp only [a2, b2, sliceOf_slice, Option.bind_some, hlt, hlt2, h0, and_self, decide_true, if_true, Nat.zero_add, Int.toNat_natCast, e0, e1, e2, f0, f1, f2, intOf_int]
    rw [da, db]
    by_cases e : x = y
    · subst e
      simp only [beq_self_eq_true, Bool.and_self, Bool.not_true, Bool.false_eq_true, if_false, P12_30_eq, hw]
      rw [ih (i + 1) (by omega)]
      simp
    · have hne : ((x.r == y.r) && ((x.g == y.g) && (x.b == y.b))) = false := by
        rcases x with ⟨x1, x2, x3⟩
        rcases y with ⟨y1, y2, y3⟩
        simp only [Px.mk.injEq] at e
        simp only [Bool.and_eq_false_iff, beq_eq_false_iff_ne, ne_eq]
        by_cases h1 : x1 = y1
        · by_cases h2 : x2 = y2
          · exact .inr (.inr fun h3 => e ⟨h1, h2, h3⟩)
          · exact .inr (.inl h2)
        · exact .inl h1
      simp only [hne, Bool.not_false, if_true]
      congr 3
      symm
      exact decide_eq_false fun h => e (List.cons.inj h).1

theorem same41_spec {Wa Ha Wb Hb : Int} {p q : Option Addr} {c d : Nat} {la lb : List Px} (hl : la.length ≤ 9223372036854775807) {M : AMem} (hp : RdL M encP p la.length la) (hq : RdL M encP q lb.length lb) :
    ∃ M', LL.call 12 [picV Wa Ha p la.length c, picV Wb Hb q lb.length d] M = some (.bool (decide (Wa = Wb ∧ Ha = Hb ∧ la = lb)), M') ∧ Same M M' [] := by
  rw [L_call12]
  unfold picV
  rw [E12]
  have g0 := cells_new M [.int .i64 Wa, .int .i64 Ha, .slice p la.length c] 0
  have s0 := same_app M [AObj.cells [.int .i64 Wa, .int .i64 Ha, .slice p la.length c] ⟨false, 0⟩]
  generalize hM0 : M ++ [AObj.cells [.int .i64 Wa, .int .i64 Ha, .slice p la.length c] ⟨false, 0⟩] = M0 at g0 s0
  have g1 := cells_new M0 [.int .i64 Wb, .int .i64 Hb, .slice q lb.length d] 0
  have s1 := same_app M0 [AObj.cells [.int .i64 Wb, .int .i64 Hb, .slice q lb.length d] ⟨false, 0⟩]
  generalize hM1 : M0 ++ [AObj.cells [.int .i64 Wb, .int .i64 Hb, .slice q lb.length d] ⟨false, 0⟩] = M1 at g1 s1
  have g0' := g0.same s1 (by simp)
  have hs : Same M M1 [] := (s0.trans s1).mono (by simp)
  have a0 : M1.ld M.length 0 = some (.int .i64 Wa) := g0'.ld 0
  have a1 : M1.ld M.length 1 = some (.int .i64 Ha) := g0'.ld 1
  have a2 : M1.ld M.length 2 = some (.slice p la.length c) := g0'.ld 2
  have b0 : M1.ld M0.length 0 = some (.int .i64 Wb) := g1.ld 0
  have b1 : M1.ld M0.length 1 = some (.int .i64 Hb) := g1.ld 1
  have b2 : M1.ld M0.length 2 = some (.slice q lb.length d) := g1.ld 2
  refine ⟨M1, ?_, hs⟩
  simp only [a0, a1, a2, b0, b1, b2, intOf_int, sliceOf_slice, Option.bind_some]
  by_cases c1 : Wa = Wb
  · by_cases c2 : Ha = Hb
    · by_cases c3 : la.length = lb.length
      · have h3 : (Int.ofNat la.length != Int.ofNat lb.length) = false := by rw [c3]; simp
        simp only [c1, c2, h3, bne_self_eq_false, Bool.false_eq_true, if_false]
        have := same41_loop (Wa := Wa) (Ha := Ha) (Wb := Wb) (Hb := Hb) c3 hl g0' g1 (hp.same hs (by simp)) (hq.same hs (by simp)) la.length 0 (by omega)
        simp only [List.drop_zero] at this
        rw [show ((0 : Nat) : Int) = 0 from rfl] at this
        rw [this]
        simp
      · have h3 : (Int.ofNat la.length != Int.ofNat lb.length) = true := by
          simp only [bne_iff_ne, ne_eq]; intro h; exact c3 (Int.ofNat.inj h)
        simp only [c1, c2, h3, bne_self_eq_false, Bool.false_eq_true, if_false, if_true]
        congr 3; symm
        exact decide_eq_false fun h => c3 (by rw [h.2.2])
    · have h2 : (Ha != Hb) = true := by simpa using c2
      simp only [c1, h2, bne_self_eq_false, Bool.false_eq_true, if_false, if_true]
      congr 3; symm
      exact decide_eq_false fun h => c2 h.2.1
  · have h2 : (Wa != Wb) = true := by simpa using c1
    simp only [h2, if_true]
    congr 3; symm
    exact decide_eq_false fun h => c1 h.1

end Go.Proofs.Ytncfdkmhpnopiaa
