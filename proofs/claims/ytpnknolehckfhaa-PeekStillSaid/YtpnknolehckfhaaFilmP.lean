/- The film that a memory tells. -/
import Derived.Test.YtpnknolehckfhaaEqFilm
import Derived.Test.YtpnknolehckfhaaCell
import Derived.Test.YtpnknolehckfhaaLayout
import Derived.Test.YtpnknolehckfhaaAxD
set_option linter.unusedVariables false
set_option linter.unusedSimpArgs false
namespace Go.Proofs.Ytpnknolehckfhaa
open Go Go.Ax

theorem wrL_app : ∀ (V A Z : List Value), V.length ≤ Z.length → wrL (A ++ Z) A.length V = A ++ V ++ Z.drop V.length
  | [], A, Z, _ => by simp [wrL]
  | v :: V, A, [], h => by simp at h
  | v :: V, A, z :: Z, h => by
    have := wrL_app V (A ++ [v]) Z (by simpa using h)
    simp only [wrL]
    rw [show (A ++ z :: Z).set A.length v = A ++ v :: Z by simp]
    simp only [List.length_append, List.length_cons, List.length_nil, Nat.zero_add, List.append_assoc, List.cons_append, List.nil_append, List.drop_succ_cons] at this ⊢
    exact this

/-- The channels' cells. -/
def chans (L : List Int) (pn sn : Nat) : List Int := (L.drop (1 + 2 * sn)).take (3 * pn)

theorem chans_len {L : List Int} {pn sn : Nat} (h : L.length = 1 + 2 * sn + 3 * pn) : (chans L pn sn).length = 3 * pn := by simp [chans, h]

theorem film_loop {C : List Int} {pn x5 x6 c : Nat} (hC : C.length = 3 * pn) (hp : pn ≤ 65536) : ∀ (d i : Nat) (M : AMem), i + d = pn → Rd M x5 (ints .u64 C) → x5 ≠ x6 →
    Cells M x6 (ints .u64 (C.take (3 * i) ++ List.replicate (3 * (pn - i)) 0)) →
    ∃ M', P34_18 LL (some ⟨x5, 0, none⟩) (3 * pn) c x6 pn pn i M = some (.slice (some ⟨x6, 0, none⟩) pn 3, M') ∧ Cells M' x6 (ints .u64 C) ∧ Same M M' [x6] := by
  intro d
  induction d with
  | zero =>
    intro i M hi h5 hne h6
    obtain rfl : i = pn := by omega
    refine ⟨M, ?_, ?_, .refl _ _⟩
    · rw [P34_18_eq LL L_loop]; simp [P34_31_eq]
    · rw [List.take_of_length_le (by omega)] at h6; simpa using h6
  | succ d ih =>
    intro i M hi h5 hne h6
    rw [P34_18_eq LL L_loop]
    have hw : IntKind.wrap .i64 (3 * (i : Int)) = ((3 * i : Nat) : Int) := by rw [w64 (by omega)]; omega
    have hw1 : IntKind.wrap .i64 ((i : Int) + 1) = ((i + 1 : Nat) : Int) := by rw [w64 (by omega)]; rfl
    have c1 : (i : Int) < (pn : Int) := by omega
    have c2 : (0 : Int) ≤ i ∧ (i : Int) < Int.ofNat pn := ⟨by omega, c1⟩
    have c3 : (0 : Int) ≤ ((3 * i : Nat) : Int) ∧ ((3 * i : Nat) : Int) ≤ Int.ofNat (3 * pn) ∧ Int.ofNat (3 * pn) ≤ Int.ofNat (3 * pn) := ⟨by omega, by rw [ofN]; omega, Int.le_refl _⟩
    have hn : (Int.ofNat (3 * pn) - ((3 * i : Nat) : Int)).toNat = 3 * pn - 3 * i := by rw [ofN]; omega
    have hr : ∀ c', rowOf M 1 (.slice (some ⟨x5, 0 + 3 * i * 1, none⟩) (3 * pn - 3 * i) c') = some (ints .u64 (C.drop (3 * i))) := fun c' => by
      rw [rowOf_some h5 (by simp; omega)]
      rw [Nat.zero_add, Nat.mul_one, Nat.mul_one, List.take_of_length_le (by simp [hC])]
      simp [ints]
    simp only [Nat.zero_add] at hr
    have hV : (ints .u64 (C.drop (3 * i))).take (3 * 1) = ints .u64 ((C.drop (3 * i)).take 3) := by unfold ints; rw [Nat.mul_one, List.map_take]
    have hlen : ((C.drop (3 * i)).take 3).length = 3 := by simp; omega
    obtain ⟨M1, w1, w2, w3, _⟩ := h6.wr (o := i * 3) (vs := ints .u64 ((C.drop (3 * i)).take 3)) (by rw [ints_length, hlen]; simp [hC]; omega)
    have hcells : wrL (ints .u64 (C.take (3 * i) ++ List.replicate (3 * (pn - i)) 0)) (i * 3) (ints .u64 ((C.drop (3 * i)).take 3)) = ints .u64 (C.take (3 * (i + 1)) ++ List.replicate (3 * (pn - (i + 1))) 0) := by
      have := wrL_app (ints .u64 ((C.drop (3 * i)).take 3)) (ints .u64 (C.take (3 * i))) (ints .u64 (List.replicate (3 * (pn - i)) 0)) (by rw [ints_length, hlen]; simp; omega)
      rw [ints_length, ints_length, hlen, List.length_take, hC, Nat.min_eq_left (by omega)] at this
      rw [show i * 3 = 3 * i by omega]
      have e1 : ints .u64 (C.take (3 * i) ++ List.replicate (3 * (pn - i)) 0) = ints .u64 (C.take (3 * i)) ++ ints .u64 (List.replicate (3 * (pn - i)) 0) := by simp [ints]
      rw [e1, this]
      have e2 : C.take (3 * (i + 1)) = C.take (3 * i) ++ (C.drop (3 * i)).take 3 := by rw [Nat.mul_succ, List.take_add]
      rw [e2]
      have e3 : 3 * (pn - i) - 3 = 3 * (pn - (i + 1)) := by omega
      simp [ints, e3]
    rw [hcells] at w2
    obtain ⟨M', k1, k2, k3⟩ := ih (i + 1) M1 (by omega) (h5.same w3 (by simpa using hne)) hne w2
    refine ⟨M', ?_, k2, (w3.trans k3).mono (by simp)⟩
    have hmin : Nat.min (3 * pn - 3 * i) 3 = 3 := by show min _ _ = _; omega
    simp only [c1, decide_true, if_true, c2, and_self, hw, c3, hn, Option.map_some, Int.toNat_natCast, hr, Option.bind_some, copyK, hmin, Nat.zero_add, hV, w1, P34_30_eq, hw1]
    simpa using k1

theorem rt_of {pn sn : Nat} (hr : Rt pn sn) : 1 ≤ pn ∧ pn ≤ 65536 ∧ 1 ≤ sn ∧ sn ≤ 256 := by unfold Rt at hr; omega

theorem film_spec {M : AMem} {b a : Nat} {L : List Int} {st wi pn sn : Nat} (h : IsMem M b a L st wi) (hr : Rt pn sn) (hL : L.length = 1 + 2 * sn + 3 * pn) :
    ∃ M' x, LL.call 34 [lay pn sn, pt b] M = some (.slice (some ⟨x, 0, none⟩) pn 3, M') ∧ Cells M' x (ints .u64 (chans L pn sn)) ∧ Same M M' [] ∧ M.length ≤ x := by
  have hr' := rt_of hr
  rw [L_call34, E34]
  obtain ⟨_, a1⟩ := right_spec pn sn
  obtain ⟨_, a2⟩ := size_spec pn sn
  obtain ⟨_, a3⟩ := begins_spec pn sn 4 (by omega)
  have g0 := cells_new M [.int .i64 (pn : Int), .int .i64 (sn : Int)] 0
  have s0 := same_app M [AObj.cells [.int .i64 (pn : Int), .int .i64 (sn : Int)] ⟨false, 0⟩]
  have h0 := h.same s0 (by simp) (by simp)
  generalize M ++ [AObj.cells [.int .i64 (pn : Int), .int .i64 (sn : Int)] ⟨false, 0⟩] = M0 at g0 s0 h0
  have a4 := len_spec h0
  have e4 : ((L.length : Int) != 1 + 2 * (sn : Int) + 3 * (pn : Int)) = false := by rw [hL]; simp
  have hb : beginsZ sn 4 = 1 + 2 * (sn : Int) := rfl
  have hw : IntKind.wrap .i64 (3 * (pn : Int)) = 3 * (pn : Int) := w64 (by omega)
  obtain ⟨M1, p, c, k1, k2, k3, k4⟩ := cells_spec h0 (by omega) (1 + 2 * (sn : Int)) (3 * (pn : Int))
  have es : sub L (1 + 2 * (sn : Int)) (3 * (pn : Int)) = chans L pn sn := by
    unfold sub chans
    rw [if_neg (by omega), show (1 + 2 * (sn : Int)).toNat = 1 + 2 * sn by omega, show (3 * (pn : Int)).toNat = 3 * pn by omega]
  have hcl := chans_len hL
  rw [es, hcl] at k1 k2
  obtain ⟨q, rfl, k5⟩ := k2.pos (by omega)
  have g1 := g0.same k3 (by simp)
  have z0 : (List.replicate (Int.toNat (pn : Int)) [Value.int .u64 0, .int .u64 0, .int .u64 0]).flatten = ints .u64 ((chans L pn sn).take (3 * 0) ++ List.replicate (3 * (pn - 0)) 0) := by
    rw [Int.toNat_natCast, Nat.mul_zero, List.take_zero, List.nil_append, Nat.sub_zero]
    have : ∀ n : Nat, (List.replicate n [Value.int .u64 0, .int .u64 0, .int .u64 0]).flatten = ints .u64 (List.replicate (3 * n) 0) := by
      intro n
      induction n with
      | zero => rfl
      | succ n ih => rw [List.replicate_succ, List.flatten_cons, ih, Nat.mul_succ]; simp [ints, List.replicate_succ]
    exact this pn
  have g2 := cells_new M1 (ints .u64 ((chans L pn sn).take (3 * 0) ++ List.replicate (3 * (pn - 0)) 0)) 0
  have s2 := same_app M1 [AObj.cells (ints .u64 ((chans L pn sn).take (3 * 0) ++ List.replicate (3 * (pn - 0)) 0)) ⟨false, 0⟩]
  have hv := ver_same (Same.refl M0 []) g0.lt (by simp)
  have lq := k5.lt
  obtain ⟨M', j1, j2, j3⟩ := film_loop (c := c) hcl hr'.2.1 pn 0 _ (by omega) (k5.rd.same s2 (by simp)) (by omega) g2
  refine ⟨M', M1.length, ?_, j2, (((s0.trans k3).trans s2).trans j3).mono' ?_, by have := s0.le; have := k3.le; omega⟩
  · have c1 : (0 : Int) ≤ (pn : Int) ∧ (pn : Int) ≤ (pn : Int) ∧ (pn : Int) ≤ 140737488355328 ∧ (pn : Int) * 24 ≤ 140737488355328 := by omega
    have hchk : chkOk [(6, 5)] [(6, M.length)] [(5, (M0, M0))] = true := by simp [chkOk, List.lookup]
    simp only [g0.ld, get0, get1, intOf_int, Option.bind_some, a1, hr, decide_true, boolOf_bool, Bool.not_true, Bool.false_eq_true, if_false, a4, a2, if_true, hchk, e4, a3, hb, hw, k1, sliceOf_slice, g1.ld, c1, and_self, z0]
    exact j1
  · intro x hx hlt
    have := s0.le; have := k3.le
    simp at hx; omega

end Go.Proofs.Ytpnknolehckfhaa
