/- The example; how many claims have some; the end of the law. -/
import Derived.Test.YtjmeilpffmhojaaBatchL
import Derived.Test.YtjmeilpffmhojaaEqAwake35
set_option linter.unusedVariables false
set_option linter.unusedSimpArgs false
set_option maxRecDepth 100000
namespace Go.Proofs.Ytjmeilpffmhojaa
open Go Go.Ax

def isT : Res → Bool
  | some (.bool b, _) => b
  | _ => false

theorem isT_some : ∀ {r : Res}, isT r = true → ∃ M, r = some (.bool true, M)
  | some (.bool b, M), h => ⟨M, by cases b <;> simp [isT] at h ⊢⟩
  | some (.int _ _, _), h => by simp [isT] at h
  | none, h => by simp [isT] at h

theorem closed {f : FuncId} {args : List Value} {A : AMem} (n : Nat) (h : isT ((run env n).call f args A) = true) : ∃ M, LL.call f args A = some (.bool true, M) := by
  obtain ⟨M, e⟩ := isT_some h
  refine ⟨M, ?_⟩
  rw [LL_lim]
  exact lim_call_iff.2 ⟨n, e⟩

theorem awake35 : ∃ M, LL.call 10 [] [] = some (.bool true, M) := closed 20 (by kernel_rfl)

theorem wins35_loop {all size : Int} (hf : CFit all size) {W : Int} (hW : W = (all + size - 1) / size) : ∀ (d c : Nat), (c : Int) + d = W → P24_8 LL all size c (c * size) = some (.int .i64 W, []) := by
  have := hf.a0; have := hf.a1; have := hf.s0; have := hf.s1
  have key : ∀ c : Int, c < W ↔ c * size < all := fun c => by
    have := Int.le_ediv_iff_mul_le (a := c + 1) (b := all + size - 1) (c := size) (by omega)
    rw [← hW, Int.add_mul] at this
    omega
  intro d
  induction d with
  | zero =>
    intro c hc
    rw [P24_8_eq LL L_loop]
    have h1 : ¬ ((c : Int) * size < all) := by rw [← key]; omega
    simp only [h1, decide_false, Bool.false_eq_true, if_false, P24_19_eq]
    have : (c : Int) = W := by omega
    rw [this]
  | succ d ih =>
    intro c hc
    rw [P24_8_eq LL L_loop]
    have h1 : (c : Int) * size < all := by rw [← key]; omega
    have h0 : (0 : Int) ≤ (c : Int) * size := Int.mul_nonneg (by omega) (by omega)
    have hle : (c : Int) * 1 ≤ (c : Int) * size := Int.mul_le_mul_of_nonneg_left (by omega) (by omega)
    have w1 : IntKind.wrap .i64 ((c : Int) + 1) = ((c + 1 : Nat) : Int) := by rw [w64 (by omega)]; rfl
    have w2 : IntKind.wrap .i64 ((c : Int) * size + size) = ((c + 1 : Nat) : Int) * size := by
      rw [w64 (by omega)]; show _ = ((c : Int) + 1) * size; rw [Int.add_mul, Int.one_mul]
    simp only [h1, decide_true, if_true, show size ≥ 1 by omega, show size ≤ 65536 by omega, show all ≤ 1048576 by omega, P24_18_eq, w1, w2]
    exact ih (c + 1) (by omega)

theorem wins35 (all size : Int) (hb : -9223372036854775808 ≤ all ∧ all ≤ 9223372036854775807) (hs : -9223372036854775808 ≤ size ∧ size ≤ 9223372036854775807) :
    ∃ W M1 M2, LL.call 23 [.int .i64 all, .int .i64 size] [] = some (.int .i64 W, M1) ∧ LL.call 24 [.int .i64 all, .int .i64 size] [] = some (.int .i64 W, M2) := by
  rw [L_call23, E23, L_call24, E24]
  by_cases hf : CFit all size
  · have := hf.a0; have := hf.a1; have := hf.s0; have := hf.s1
    have w1 : IntKind.wrap .i64 (all + size) = all + size := w64 (by omega)
    have w2 : IntKind.wrap .i64 (all + size - 1) = all + size - 1 := w64 (by omega)
    have w3 : Int.tdiv (all + size - 1) size = (all + size - 1) / size := Int.tdiv_eq_ediv_of_nonneg (by omega)
    have w0 : 0 ≤ (all + size - 1) / size := Int.ediv_nonneg (by omega) (by omega)
    have w5 : (all + size - 1) / size ≤ all + size - 1 := Int.ediv_le_self _ (by omega)
    have w4 : IntKind.wrap .i64 ((all + size - 1) / size) = (all + size - 1) / size := w64 (by omega)
    have := wins35_loop hf rfl ((all + size - 1) / size).toNat 0 (by omega)
    simp only [Int.ofNat_zero, Int.natCast_zero, Int.zero_mul] at this
    simp only [show ¬ all < 0 by omega, show ¬ all > 1048576 by omega, show ¬ size < 1 by omega, show ¬ size > 65536 by omega, show ¬ size = 0 by omega, decide_false, Bool.false_eq_true, if_false, w1, w2, w3, w4]
    exact ⟨_, _, _, rfl, this⟩
  · refine ⟨0, [], [], ?_, ?_⟩
    · by_cases c1 : all < 0
      · simp [c1]
      by_cases c2 : all > 1048576
      · simp [c1, c2]
      by_cases c3 : size < 1
      · simp [c1, c2, c3]
      by_cases c4 : size > 65536
      · simp [c1, c2, c3, c4]
      exact absurd ⟨by omega, by omega, by omega, by omega⟩ hf
    · rw [P24_8_eq LL L_loop]
      simp only [P24_19_eq]
      by_cases c1 : 0 < all
      · by_cases c2 : size ≥ 1
        · by_cases c3 : size ≤ 65536
          · by_cases c4 : all ≤ 1048576
            · exact absurd ⟨by omega, by omega, by omega, by omega⟩ hf
            · simp [c1, c2, c3, c4]
          · simp [c1, c2, c3]
        · simp [c1, c2]
      · simp [c1]

/-- A claim that was not made. -/
def encN : List Value := [.int .i64 0, .int .i64 0, .nilFunc, .bool false, .int .u64 0, .int .i64 0, .int .i64 0, .int .i64 0]

theorem pdone {M : AMem} {c : Nat} (h : Cells M c encN) : LL.call 19 [pt c] M = some (.bool false, M) := by
  rw [L_call19, E19]
  have h3 : encN[3]? = some (.bool false) := rfl
  simp only [Option.isNone_some, Bool.not_false, if_true, Nat.zero_add, h.ld, h3, boolOf_bool, Option.bind_some, Bool.false_eq_true, if_false]

theorem prange {M : AMem} {c : Nat} (h : Cells M c encN) : LL.call 21 [pt c] M = some (.tuple #[.int .i64 0, .int .i64 0, .bool false], M) := by
  rw [L_call21, E21]
  simp only [pdone h, Option.bind_some, boolOf_bool, Bool.not_false, if_true]

theorem plost {M : AMem} {c : Nat} (h : Cells M c encN) : LL.call 20 [pt c] M = some (.int .i64 0, M) := by
  rw [L_call20, E20]
  have h7 : encN[7]? = some (.int .i64 0) := rfl
  simp [h.ld, h7]

theorem pstep {M : AMem} {c : Nat} (h : Cells M c encN) (v : Value) (x : Option Addr) (hv : v = .pointer x) : LL.call 17 [pt c, v] M = some (.bool false, M) := by
  subst hv
  have h2 : encN[2]? = some .nilFunc := rfl
  have hu : LL.call 56 [pt c] M = some (.bool false, M) := by
    rw [L_call56, E56]
    have h4 : anyOf? (some Value.nilFunc) = some .nilFunc := rfl
    have h5 : isNil 2 .nilFunc = some true := rfl
    simp only [Option.isNone_some, Bool.not_false, if_true, Nat.zero_add, h.ld, h2, h4, h5, Option.bind_some, Bool.not_true]
  rw [L_call17, E17]
  simp only [hu, Option.bind_some, boolOf_bool, Bool.not_false, if_true]

theorem nstep (M : AMem) (x : Option Addr) : LL.call 17 [.pointer none, .pointer x] M = some (.bool false, M) := by
  rw [L_call17, E17]
  simp only [under_nil, Option.bind_some, boolOf_bool, Bool.not_false, if_true]

theorem nrange (M : AMem) : LL.call 21 [.pointer none] M = some (.tuple #[.int .i64 0, .int .i64 0, .bool false], M) := by
  rw [L_call21, E21]
  simp only [done_nil, Option.bind_some, boolOf_bool, Bool.not_false, if_true]

theorem nlost (M : AMem) : LL.call 20 [.pointer none] M = some (.int .i64 0, M) := by
  rw [L_call20, E20]; rfl

theorem plays35_end {g : Bool} {all size : Int} (hb : -9223372036854775808 ≤ all ∧ all ≤ 9223372036854775807) (hsz : -9223372036854775808 ≤ size ∧ size ≤ 9223372036854775807) {mb ma rb : Nat} {p : Option Addr} {pc a b : Nat} {qs : List (Option Addr)} (hd : rb ≠ mb ∧ mb ∉ blk p) (M : AMem) (ss : List CS) (cur : Int) (T : Nat) (hv : BInv g all size M mb ma rb p pc a b qs ss cur T)
    (hT : T ≤ 81) : ∃ M', P3_84 LL all size rb (some ⟨mb, 0, none⟩) M = some (.bool true, M') := by
  obtain ⟨st, wi, m1, m2, m3⟩ := hv.mem
  obtain ⟨st2, wi2, r1, r2, r3⟩ := hv.ref
  obtain ⟨M1, g1, g2, g3⟩ := load_spec m1 (by omega) 0
  have e1 : getI [cur] 0 = cur := by simp [getI, inR]
  rw [e1] at g1
  have f1 := r1.same g3 (by simp [hd.1]) (fun x hx => by simp; intro e; subst e; exact hd.2 hx)
  have hc := cells_new M1 encN 0
  have s1 := same_app M1 [AObj.cells encN ⟨false, 0⟩]
  have f2 := f1.same s1 (by simp) (by simp)
  obtain ⟨pa, rfl, hpc⟩ := f2.cs.pos (by simp)
  have hlen := f2.hd.ld 0
  have hx := hpc.ld 0
  have hx0 : (ints .u64 [cur])[0]? = some (.int .u64 cur) := rfl
  rw [hx0] at hx
  rw [get0] at hlen
  obtain ⟨W, A1, A2, W1, W2⟩ := wins35 all size hb hsz
  obtain ⟨A3, aw⟩ := awake35
  rw [P3_84_eq]
  simp only [g1, Option.bind_some, tup2, get0, get1, intOf_int, boolOf_bool, nrange, tup3, get2]
  show ∃ M', (Option.bind (LL.call 21 [pt M1.length] (M1 ++ [AObj.cells encN ⟨false, 0⟩])) _) = _
  have i0 : (0 : Int) ≤ 0 ∧ (0 : Int) < Int.ofNat ([cur] : List Int).length := ⟨by omega, by simp⟩
  have hw0 : (IntKind.wrap .i64 ((0 : Int) + 0) != 0) = false := by decide
  simp only [prange hc, Option.bind_some, tup3, get0, get1, get2, intOf_int, boolOf_bool, P3_94_eq, Bool.false_eq_true, if_false, done_nil, pdone hc, nstep, pstep hc _ _ rfl, nlost, plost hc, hw0, P3_97_eq,
    hlen, sliceOf_slice, i0, and_self, if_true, hx, beq_self_eq_true, W1, W2, aw]
  by_cases c1 : size > 0
  · have c2 : ¬ size = 0 := by omega
    simp only [c1, decide_true, if_true, c2, if_false]
    by_cases c3 : IntKind.wrap .i64 (Int.tdiv all size) > 100
    · simp only [c3, decide_true, if_true]; exact ⟨_, rfl⟩
    · simp only [c3, decide_false, Bool.false_eq_true, if_false]; exact ⟨_, rfl⟩
  · simp only [c1, decide_false, Bool.false_eq_true, if_false]; exact ⟨_, rfl⟩

end Go.Proofs.Ytjmeilpffmhojaa
