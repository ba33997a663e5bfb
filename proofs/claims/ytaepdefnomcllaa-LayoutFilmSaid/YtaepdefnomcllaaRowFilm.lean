/- LayoutFilm: whatever the layout, the channels and the other number, the law answers true, and each argument reads as it did. No condition. -/
import Derived.Test.YtaepdefnomcllaaRows
import Derived.Test.YtaepdefnomcllaaEqFilm
import Derived.Test.YtaepdefnomcllaaLaw31
import Derived.Test.YtaepdefnomcllaaRef30
import Derived.Test.YtaepdefnomcllaaAxMath
set_option linter.unusedVariables false
set_option linter.unusedSimpArgs false
namespace Go.Proofs.Ytaepdefnomcllaa
open Go Go.Ax

theorem wrL_app : ∀ (V A Z : List Value), V.length ≤ Z.length → wrL (A ++ Z) A.length V = A ++ V ++ Z.drop V.length
  | [], A, Z, _ => by simp [wrL]
  | v :: V, A, [], h => by simp at h
  | v :: V, A, z :: Z, h => by
    have := wrL_app V (A ++ [v]) Z (by simpa using h)
    simp only [wrL]
    rw [show (A ++ z :: Z).set A.length v = A ++ v :: Z by simp]
    simp only [List.length_append, List.length_cons, List.length_nil, Nat.zero_add, List.append_assoc, List.cons_append, List.nil_append, List.drop_succ_cons] at this ⊢
    exact this

theorem len_nil' (M : AMem) : LL.call 32 [.pointer none] M = some (.int .i64 0, M) := by
  rw [L_call32, E32]; simp

/-- The channels' cells. -/
def chans (L : List Int) (pn sn : Nat) : List Int := (L.drop (1 + 2 * sn)).take (3 * pn)

theorem chans_len {L : List Int} {pn sn : Nat} (h : L.length = 1 + 2 * sn + 3 * pn) : (chans L pn sn).length = 3 * pn := by simp [chans, h]

theorem film_loop {C : List Int} {pn x5 x6 c : Nat} (hC : C.length = 3 * pn) (hp : pn ≤ 65536) : ∀ (d i : Nat) (M : AMem), i + d = pn → Rd M x5 (ints .u64 C) → x5 ≠ x6 →
    Cells M x6 (ints .u64 (C.take (3 * i) ++ List.replicate (3 * (pn - i)) 0)) →
    ∃ M', P37_18 LL (some ⟨x5, 0, none⟩) (3 * pn) c x6 pn pn i M = some (.slice (some ⟨x6, 0, none⟩) pn 3, M') ∧ Cells M' x6 (ints .u64 C) ∧ Same M M' [x6] := by
  intro d
  induction d with
  | zero =>
    intro i M hi h5 hne h6
    obtain rfl : i = pn := by omega
    refine ⟨M, ?_, ?_, .refl _ _⟩
    · rw [P37_18_eq LL L_loop]; simp [P37_31_eq]
    · rw [List.take_of_length_le (by omega)] at h6; simpa using h6
  | succ d ih =>
    intro i M hi h5 hne h6
    rw [P37_18_eq LL L_loop]
    have hw : IntKind.wrap .i64 (3 * (i : Int)) = ((3 * i : Nat) : Int) := by rw [w64 (by omega)]; omega
    have hw1 : IntKind.wrap .i64 ((i : Int) + 1) = ((i + 1 : Nat) : Int) := by rw [w64 (by omega)]; rfl
    have c1 : (i : Int) < (pn : Int) := by omega
    have c2 : (0 : Int) ≤ i ∧ (i : Int) < Int.ofNat pn := ⟨by omega, c1⟩
    have c3 : (0 : Int) ≤ ((3 * i : Nat) : Int) ∧ ((3 * i : Nat) : Int) ≤ Int.ofNat (3 * pn) ∧ Int.ofNat (3 * pn) ≤ Int.ofNat (3 * pn) := ⟨by omega, by rw [ofN]; omega, Int.le_refl _⟩
    have hn : (Int.ofNat (3 * pn) - ((3 * i : Nat) : Int)).toNat = 3 * pn - 3 * i := by rw [ofN]; omega
    have hr : ∀ c', rowOf M 1 (.slice (some ⟨x5, 0 + 3 * i * 1, none⟩) (3 * pn - 3 * i) c') = some (ints .u64 (C.drop (3 * i))) := fun c' => by
      rw [rowOf_some h5 (by simp; omega)]
      rw [Nat.zero_add, Nat.mul_one, Nat.mul_one, List.take_of_length_le (by simp [hC])]
      simp [ints]
    simp only [Nat.zero_add] at hr
    have hV : (ints .u64 (C.drop (3 * i))).take (3 * 1) = ints .u64 ((C.drop (3 * i)).take 3) := by unfold ints; rw [Nat.mul_one, List.map_take]
    have hlen : ((C.drop (3 * i)).take 3).length = 3 := by simp; omega
    obtain ⟨M1, w1, w2, w3, _⟩ := h6.wr (o := i * 3) (vs := ints .u64 ((C.drop (3 * i)).take 3)) (by rw [ints_length, hlen]; simp [hC]; omega)
    have hcells : wrL (ints .u64 (C.take (3 * i) ++ List.replicate (3 * (pn - i)) 0)) (i * 3) (ints .u64 ((C.drop (3 * i)).take 3)) = ints .u64 (C.take (3 * (i + 1)) ++ List.replicate (3 * (pn - (i + 1))) 0) := by
      have := wrL_app (ints .u64 ((C.drop (3 * i)).take 3)) (ints .u64 (C.take (3 * i))) (ints .u64 (List.replicate (3 * (pn - i)) 0)) (by rw [ints_length, hlen]; simp; omega)
      rw [ints_length, ints_length, hlen, List.length_take, hC, Nat.min_eq_left (by omega)] at this
      rw [show i * 3 = 3 * i by omega]
      have e1 : ints .u64 (C.take (3 * i) ++ List.replicate (3 * (pn - i)) 0) = ints .u64 (C.take (3 * i)) ++ ints .u64 (List.replicate (3 * (pn - i)) 0) := by simp [ints]
      rw [e1, this]
      have e2 : C.take (3 * (i + 1)) = C.take (3 * i) ++ (C.drop (3 * i)).take 3 := by rw [Nat.mul_succ, List.take_add]
      rw [e2]
      have e3 : 3 * (pn - i) - 3 = 3 * (pn - (i + 1)) := by omega
      simp [ints, e3]
    rw [hcells] at w2
    obtain ⟨M', k1, k2, k3⟩ := ih (i + 1) M1 (by omega) (h5.same w3 (by simpa using hne)) hne w2
    refine ⟨M', ?_, k2, (w3.trans k3).mono (by simp)⟩
    have hmin : Nat.min (3 * pn - 3 * i) 3 = 3 := by show min _ _ = _; omega
    simp only [c1, decide_true, if_true, c2, and_self, hw, c3, hn, Option.map_some, Int.toNat_natCast, hr, Option.bind_some, copyK, hmin, Nat.zero_add, hV, w1, P37_30_eq, hw1]
    simpa using k1

theorem rt_of {pn sn : Nat} (hr : Rt pn sn) : 1 ≤ pn ∧ pn ≤ 65536 ∧ 1 ≤ sn ∧ sn ≤ 256 := by unfold Rt at hr; omega

theorem film_spec {M : AMem} {b a : Nat} {L : List Int} {st wi pn sn : Nat} (h : IsMem M b a L st wi) (hr : Rt pn sn) (hL : L.length = 1 + 2 * sn + 3 * pn) :
    ∃ M' x, LL.call 37 [lay pn sn, pt b] M = some (.slice (some ⟨x, 0, none⟩) pn 3, M') ∧ Cells M' x (ints .u64 (chans L pn sn)) ∧ Same M M' [] ∧ M.length ≤ x := by
  have hr' := rt_of hr
  rw [L_call37, E37]
  obtain ⟨_, a1⟩ := right_spec pn sn
  obtain ⟨_, a2⟩ := size_spec pn sn
  obtain ⟨_, a3⟩ := begins_spec pn sn 4 (by omega)
  have g0 := cells_new M [.int .i64 (pn : Int), .int .i64 (sn : Int)] 0
  have s0 := same_app M [AObj.cells [.int .i64 (pn : Int), .int .i64 (sn : Int)] ⟨false, 0⟩]
  have h0 := h.same s0 (by simp) (by simp)
  generalize M ++ [AObj.cells [.int .i64 (pn : Int), .int .i64 (sn : Int)] ⟨false, 0⟩] = M0 at g0 s0 h0
  have a4 := len_spec h0
  have e4 : ((L.length : Int) != 1 + 2 * (sn : Int) + 3 * (pn : Int)) = false := by rw [hL]; simp
  have hb : beginsZ sn 4 = 1 + 2 * (sn : Int) := rfl
  have hw : IntKind.wrap .i64 (3 * (pn : Int)) = 3 * (pn : Int) := w64 (by omega)
  obtain ⟨M1, p, c, k1, k2, k3, k4⟩ := cells_spec h0 (by omega) (1 + 2 * (sn : Int)) (3 * (pn : Int))
  have es : sub L (1 + 2 * (sn : Int)) (3 * (pn : Int)) = chans L pn sn := by
    unfold sub chans
    rw [if_neg (by omega), show (1 + 2 * (sn : Int)).toNat = 1 + 2 * sn by omega, show (3 * (pn : Int)).toNat = 3 * pn by omega]
  have hcl := chans_len hL
  rw [es, hcl] at k1 k2
  obtain ⟨q, rfl, k5⟩ := k2.pos (by omega)
  have g1 := g0.same k3 (by simp)
  have z0 : (List.replicate (Int.toNat (pn : Int)) [Value.int .u64 0, .int .u64 0, .int .u64 0]).flatten = ints .u64 ((chans L pn sn).take (3 * 0) ++ List.replicate (3 * (pn - 0)) 0) := by
    rw [Int.toNat_natCast, Nat.mul_zero, List.take_zero, List.nil_append, Nat.sub_zero]
    have : ∀ n : Nat, (List.replicate n [Value.int .u64 0, .int .u64 0, .int .u64 0]).flatten = ints .u64 (List.replicate (3 * n) 0) := by
      intro n
      induction n with
      | zero => rfl
      | succ n ih => rw [List.replicate_succ, List.flatten_cons, ih, Nat.mul_succ]; simp [ints, List.replicate_succ]
    exact this pn
  have g2 := cells_new M1 (ints .u64 ((chans L pn sn).take (3 * 0) ++ List.replicate (3 * (pn - 0)) 0)) 0
  have s2 := same_app M1 [AObj.cells (ints .u64 ((chans L pn sn).take (3 * 0) ++ List.replicate (3 * (pn - 0)) 0)) ⟨false, 0⟩]
  have hv := ver_same (Same.refl M0 []) g0.lt (by simp)
  have lq := k5.lt
  obtain ⟨M', j1, j2, j3⟩ := film_loop (c := c) hcl hr'.2.1 pn 0 _ (by omega) (k5.rd.same s2 (by simp)) (by omega) g2
  refine ⟨M', M1.length, ?_, j2, (((s0.trans k3).trans s2).trans j3).mono' ?_, by have := s0.le; have := k3.le; omega⟩
  · have c1 : (0 : Int) ≤ (pn : Int) ∧ (pn : Int) ≤ (pn : Int) ∧ (pn : Int) ≤ 140737488355328 ∧ (pn : Int) * 24 ≤ 140737488355328 := by omega
    have hchk : chkOk [(6, 5)] [(6, M.length)] [(5, (M0, M0))] = true := by simp [chkOk, List.lookup]
    simp only [g0.ld, get0, get1, intOf_int, Option.bind_some, a1, hr, decide_true, boolOf_bool, Bool.not_true, Bool.false_eq_true, if_false, a4, a2, if_true, hchk, e4, a3, hb, hw, k1, sliceOf_slice, g1.ld, c1, and_self, z0]
    exact j1
  · intro x hx hlt
    have := s0.le; have := k3.le
    simp at hx; omega

theorem film_none {M : AMem} (pn sn : Nat) (hr : Rt pn sn) : ∃ M', LL.call 37 [lay pn sn, .pointer none] M = some (.slice none 0 0, M') ∧ Same M M' [] := by
  have hr' := rt_of hr
  rw [L_call37, E37]
  obtain ⟨_, a1⟩ := right_spec pn sn
  obtain ⟨_, a2⟩ := size_spec pn sn
  have g0 := cells_new M [.int .i64 (pn : Int), .int .i64 (sn : Int)] 0
  have s0 := same_app M [AObj.cells [.int .i64 (pn : Int), .int .i64 (sn : Int)] ⟨false, 0⟩]
  generalize M ++ [AObj.cells [.int .i64 (pn : Int), .int .i64 (sn : Int)] ⟨false, 0⟩] = M0 at g0 s0
  have e4 : ((0 : Int) != 1 + 2 * (sn : Int) + 3 * (pn : Int)) = true := by simp; omega
  have hchk : chkOk [(6, 5)] [(6, M.length)] [(5, (M0, M0))] = true := by simp [chkOk, List.lookup]
  refine ⟨M0, ?_, s0⟩
  simp only [g0.ld, get0, get1, intOf_int, Option.bind_some, a1, hr, decide_true, boolOf_bool, Bool.not_true, Bool.false_eq_true, if_false, len_nil', a2, if_true, hchk, e4]

theorem film_other {M : AMem} {b a : Nat} {L : List Int} {st wi : Nat} (h : IsMem M b a L st wi) (pn sn : Nat) (hr : Rt pn sn) (hL : L.length ≠ 1 + 2 * sn + 3 * pn) : ∃ M', LL.call 37 [lay pn sn, pt b] M = some (.slice none 0 0, M') ∧ Same M M' [] := by
  have hr' := rt_of hr
  rw [L_call37, E37]
  obtain ⟨_, a1⟩ := right_spec pn sn
  obtain ⟨_, a2⟩ := size_spec pn sn
  have g0 := cells_new M [.int .i64 (pn : Int), .int .i64 (sn : Int)] 0
  have s0 := same_app M [AObj.cells [.int .i64 (pn : Int), .int .i64 (sn : Int)] ⟨false, 0⟩]
  have a4 := len_spec (h.same s0 (by simp) (by simp))
  generalize M ++ [AObj.cells [.int .i64 (pn : Int), .int .i64 (sn : Int)] ⟨false, 0⟩] = M0 at g0 s0 a4
  have e4 : ((L.length : Int) != 1 + 2 * (sn : Int) + 3 * (pn : Int)) = true := by simp; omega
  have hchk : chkOk [(6, 5)] [(6, M.length)] [(5, (M0, M0))] = true := by simp [chkOk, List.lookup]
  refine ⟨M0, ?_, s0⟩
  simp only [g0.ld, get0, get1, intOf_int, Option.bind_some, a1, hr, decide_true, boolOf_bool, Bool.not_true, Bool.false_eq_true, if_false, a4, a2, if_true, hchk, e4]

/-! #### the document's film -/

theorem rsize_spec (pn sn : Nat) (hr : Rt pn sn) : ∃ M, LL.call 36 [lay pn sn] [] = some (.int .i64 ((1 + 2 * sn + 3 * pn : Nat) : Int), M) := by
  have hr' := rt_of hr
  rw [L_call36, E36]
  obtain ⟨_, a1⟩ := right12_spec pn sn
  have e : IntKind.wrap .i64 (IntKind.wrap .i64 (1 + IntKind.wrap .i64 (2 * (sn : Int))) + IntKind.wrap .i64 (3 * (pn : Int))) = ((1 + 2 * sn + 3 * pn : Nat) : Int) := by
    rw [w64 (n := 2 * (sn : Int)) (by omega), w64 (n := 3 * (pn : Int)) (by omega), w64 (n := 1 + 2 * (sn : Int)) (by omega), w64 (by omega)]; omega
  simp only [a1, Option.bind_some, boolOf_bool, hr, decide_true, Bool.not_true, Bool.false_eq_true, if_false, e]
  exact ⟨_, rfl⟩

theorem rat_spec (pn sn i : Nat) (hr : Rt pn sn) (hi : i ≤ 65536) : ∃ M, LL.call 52 [lay pn sn, nam (4, (i : Int), 0)] [] = some (.int .i64 ((1 + 2 * sn + 3 * i : Nat) : Int), M) := by
  have hr' := rt_of hr
  rw [L_call52, E52]
  have e : IntKind.wrap .i64 (IntKind.wrap .i64 (IntKind.wrap .i64 (1 + IntKind.wrap .i64 (2 * (sn : Int))) + IntKind.wrap .i64 (3 * (i : Int))) + 0) = ((1 + 2 * sn + 3 * i : Nat) : Int) := by
    rw [w64 (n := 2 * (sn : Int)) (by omega), w64 (n := 3 * (i : Int)) (by omega), w64 (n := 1 + 2 * (sn : Int)) (by omega), w64 (n := 1 + 2 * (sn : Int) + 3 * i) (by omega), w64 (by omega)]; omega
  have c1 : ((4 : Int) == 2) = false := rfl
  have c2 : ((4 : Int) == 3) = false := rfl
  simp only [c1, c2, Bool.false_eq_true, if_false, e]
  exact ⟨_, rfl⟩

theorem rfilm_loop {b : Nat} {p : Option Addr} {c : Nat} {L : List Int} {st wi pn sn x2 : Nat} (hr : Rt pn sn) (hL : L.length = 1 + 2 * sn + 3 * pn) : ∀ (d i : Nat) (M : AMem) (q : Option Addr) (qc : Nat), i + d = pn →
    IsRef M b p c L st wi → Rd M x2 [.int .i64 (pn : Int), .int .i64 (sn : Int)] → Slc M 3 q i qc (ints .u64 ((chans L pn sn).take (3 * i))) → (∀ x ∈ blk q, x ≠ b ∧ x ∉ blk p ∧ x ≠ x2) →
    ∃ M' q' qc', P38_8 LL (some ⟨b, 0, none⟩) x2 q i qc i M = some (.slice q' pn qc', M') ∧ Slc M' 3 q' pn qc' (ints .u64 (chans L pn sn)) ∧ Grn M q M' q' := by
  have hr' := rt_of hr
  obtain ⟨_, a1⟩ := right12_spec pn sn
  obtain ⟨_, a2⟩ := rsize_spec pn sn hr
  have hcl := chans_len hL
  intro d
  induction d with
  | zero =>
    intro i M q qc hi h hx hq hn
    obtain rfl : i = pn := by omega
    rw [List.take_of_length_le (by omega)] at hq
    refine ⟨M, q, qc, ?_, hq, .refl _ _⟩
    rw [P38_8_eq LL L_loop]
    simp [hx.ld, P38_21_eq]
  | succ d ih =>
    intro i M q qc hi h hx hq hn
    rw [P38_8_eq LL L_loop]
    obtain ⟨_, a3⟩ := rat_spec pn sn i hr (by omega)
    obtain ⟨a, rfl, hc⟩ := h.cs.pos (by omega)
    have hlt : (i : Int) < (pn : Int) := by omega
    have hw1 : IntKind.wrap .i64 ((i : Int) + 1) = ((i + 1 : Nat) : Int) := by rw [w64 (by omega)]; rfl
    have hk1 : IntKind.wrap .i64 (((1 + 2 * sn + 3 * i : Nat) : Int) + 1) = ((1 + 2 * sn + 3 * i + 1 : Nat) : Int) := by rw [w64 (by omega)]; omega
    have hk2 : IntKind.wrap .i64 (((1 + 2 * sn + 3 * i : Nat) : Int) + 2) = ((1 + 2 * sn + 3 * i + 2 : Nat) : Int) := by rw [w64 (by omega)]; omega
    have i0 := ints_nat (k := .u64) (show 1 + 2 * sn + 3 * i < L.length by omega)
    have i1 := ints_nat (k := .u64) (show 1 + 2 * sn + 3 * i + 1 < L.length by omega)
    have i2 := ints_nat (k := .u64) (show 1 + 2 * sn + 3 * i + 2 < L.length by omega)
    have r0 : (0 : Int) ≤ ((1 + 2 * sn + 3 * i : Nat) : Int) ∧ ((1 + 2 * sn + 3 * i : Nat) : Int) < Int.ofNat L.length := by rw [ofN]; omega
    have r1 : (0 : Int) ≤ ((1 + 2 * sn + 3 * i + 1 : Nat) : Int) ∧ ((1 + 2 * sn + 3 * i + 1 : Nat) : Int) < Int.ofNat L.length := by rw [ofN]; omega
    have r2 : (0 : Int) ≤ ((1 + 2 * sn + 3 * i + 2 : Nat) : Int) ∧ ((1 + 2 * sn + 3 * i + 2 : Nat) : Int) < Int.ofNat L.length := by rw [ofN]; omega
    have e3 : (Int.ofNat L.length == ((1 + 2 * sn + 3 * pn : Nat) : Int)) = true := by rw [ofN, hL]; simp
    obtain ⟨M1, h1, h2, h3⟩ := grn_row (bytes := 24) (new := [.int .u64 (L.getD (1 + 2 * sn + 3 * i) 0), .int .u64 (L.getD (1 + 2 * sn + 3 * i + 1) 0), .int .u64 (L.getD (1 + 2 * sn + 3 * i + 2) 0)]) (m := 1) (v := 0) hq rfl (by omega) (by omega)
    have ec : ints .u64 ((chans L pn sn).take (3 * i)) ++ [.int .u64 (L.getD (1 + 2 * sn + 3 * i) 0), .int .u64 (L.getD (1 + 2 * sn + 3 * i + 1) 0), .int .u64 (L.getD (1 + 2 * sn + 3 * i + 2) 0)] = ints .u64 ((chans L pn sn).take (3 * (i + 1))) := by
      have g : ∀ j, j < 3 → (chans L pn sn)[3 * i + j]? = some (L.getD (1 + 2 * sn + 3 * i + j) 0) := fun j hj => by
        unfold chans
        rw [List.getElem?_take_of_lt (by omega), List.getElem?_drop, List.getD_eq_getElem?_getD, show 1 + 2 * sn + (3 * i + j) = 1 + 2 * sn + 3 * i + j by omega, List.getElem?_eq_getElem (by omega)]; rfl
      have e2 : (chans L pn sn).take (3 * (i + 1)) = (chans L pn sn).take (3 * i) ++ [L.getD (1 + 2 * sn + 3 * i) 0, L.getD (1 + 2 * sn + 3 * i + 1) 0, L.getD (1 + 2 * sn + 3 * i + 2) 0] := by
        have g0 := g 0 (by omega); have g1 := g 1 (by omega); have g2 := g 2 (by omega)
        rw [show 3 * (i + 1) = 3 * i + 1 + 1 + 1 by omega, List.take_add_one, List.take_add_one, List.take_add_one, show 3 * i + 1 + 1 = 3 * i + 2 by omega]
        rw [Nat.add_zero] at g0
        rw [g0, g1, g2]
        simp
      rw [e2]; simp [ints]
    rw [ec] at h2
    have hbq : ∀ x ∈ blk q, x ≠ b ∧ x ≠ a ∧ x ≠ x2 := fun x hx => by have := hn x hx; simpa using this
    obtain ⟨M', q', qc', k1, k2, k3⟩ := ih (i + 1) M1 (some ⟨M.length + 1, 0, none⟩) 3 (by omega)
      (h.same h3.same (fun hb => (hn b hb).1 rfl) (fun x hx hxq => (hn x hxq).2.1 hx)) (hx.same h3.same fun hb => (hn x2 hb).2.2 rfl) h2 (by
        intro x hx'
        simp at hx'
        have := h.hd.lt; have := hc.lt; have := hx.lt
        simp; omega)
    refine ⟨M', q', qc', ?_, k2, h3.trans k3⟩
    have hrow := rowOf_new M 3 1 [.int .u64 (L.getD (1 + 2 * sn + 3 * i) 0), .int .u64 (L.getD (1 + 2 * sn + 3 * i + 1) 0), .int .u64 (L.getD (1 + 2 * sn + 3 * i + 2) 0)] 0 3 rfl
    simp only [hx.ld, get0, get1, intOf_int, Option.bind_some, hlt, decide_true, if_true, a1, hr, boolOf_bool, h.hd.ld, sliceOf_slice, a2, e3, a3, r0, r1, r2, hk1, hk2, and_self, Nat.zero_add, Nat.mul_one, Int.toNat_natCast, hc.ld, i0, i1, i2, hrow, h1,
      P38_20_eq, hw1]
    exact k1

theorem rfilm_spec {M : AMem} {b : Nat} {p : Option Addr} {c : Nat} {L : List Int} {st wi pn sn : Nat} (h : IsRef M b p c L st wi) (hr : Rt pn sn) (hL : L.length = 1 + 2 * sn + 3 * pn) :
    ∃ M' q qc, LL.call 38 [lay pn sn, pt b] M = some (.slice q pn qc, M') ∧ Slc M' 3 q pn qc (ints .u64 (chans L pn sn)) ∧ Same M M' [] ∧ ∀ x ∈ blk q, M.length ≤ x := by
  rw [L_call38, E38]
  have g0 := cells_new M [.int .i64 (pn : Int), .int .i64 (sn : Int)] 0
  have s0 := same_app M [AObj.cells [.int .i64 (pn : Int), .int .i64 (sn : Int)] ⟨false, 0⟩]
  have h0 := h.same s0 (by simp) (by simp)
  generalize M ++ [AObj.cells [.int .i64 (pn : Int), .int .i64 (sn : Int)] ⟨false, 0⟩] = M0 at g0 s0 h0
  obtain ⟨M', q, qc, k1, k2, k3⟩ := rfilm_loop hr hL pn 0 M0 none 0 (by omega) h0 g0.rd (by simpa [ints] using Slc.nil M0 3 0) (by simp)
  exact ⟨M', q, qc, k1, k2, (s0.trans k3.same).mono (by simp), fun x hx => by have := k3.new x hx; simp at this; have := s0.le; omega⟩

/-! #### the law -/

def encN3 (x : Int × Int × Int) : List Value := [.int .i64 x.1, .int .i64 x.2.1, .int .i64 x.2.2]
theorem encN3_len (x : Int × Int × Int) : (encN3 x).length = 3 := rfl

/-- What stands while channels are exchanged. -/
structure Fi (M : AMem) (p : Option Addr) (l : List (Int × Int × Int)) (x3 x7 b a r : Nat) (q : Option Addr) (qc pn sn : Nat) (L : List Int) (st wi : Nat) : Prop where
  mem : IsMem M b a L st wi
  ref : IsRef M r q qc L st wi
  arg : RdL M encN3 p l.length l
  l3 : Rd M x3 [.int .i64 (pn : Int), .int .i64 (sn : Int)]
  l7 : Rd M x7 [.int .i64 (pn : Int), .int .i64 (sn : Int)]
  d1 : b ≠ r ∧ a ≠ r ∧ b ∉ blk q ∧ a ∉ blk q
  d2 : ∀ x ∈ blk p, x ≠ b ∧ x ≠ a ∧ x ≠ r ∧ x ∉ blk q
  d3 : x3 ≠ b ∧ x3 ≠ a ∧ x3 ≠ r ∧ x3 ∉ blk q
  d7 : x7 ≠ b ∧ x7 ≠ a ∧ x7 ≠ r ∧ x7 ∉ blk q
  len : L.length = 1 + 2 * sn + 3 * pn

theorem fi_step {M : AMem} {p : Option Addr} {l : List (Int × Int × Int)} {x3 x7 b a r : Nat} {q : Option Addr} {qc pn sn : Nat} {L : List Int} {st wi : Nat} (hr : Rt pn sn) (h : Fi M p l x3 x7 b a r q qc pn sn L st wi) (hst : st < 900) (hwi : wi < 900)
    (o : Int) (i : Nat) (hi : i < l.length) (hi2 : i ≤ 1000) :
    ∃ M' L' st' wi', P7_20 LL p l.length 0 o x3 x7 (some ⟨b, 0, none⟩) r i M = P7_20 LL p l.length 0 o x3 x7 (some ⟨b, 0, none⟩) r ((i + 1 : Nat) : Int) M' ∧
      Fi M' p l x3 x7 b a r q qc pn sn L' st' wi' ∧ st' ≤ st + 2 ∧ wi' ≤ wi + 1 := by
  obtain ⟨pa, rfl, ha⟩ := h.arg.2 (by omega)
  have hx := List.getElem?_eq_getElem hi
  generalize l[i] = x at hx
  have e1 := flat_get encN3_len l i 1 x hx (by omega)
  have e2 := flat_get encN3_len l i 2 x hx (by omega)
  obtain ⟨k, at', ch⟩ := x
  simp only [encN3, get1, get2] at e1 e2
  have hlt : (i : Int) < Int.ofNat l.length := by rw [ofN]; omega
  have h0 : (0 : Int) ≤ (i : Int) := by omega
  obtain ⟨_, a1⟩ := channel_spec pn sn at' ch
  generalize (if Rt pn sn ∧ (0 ≤ at' ∧ at' < pn) ∧ (0 ≤ ch ∧ ch < 3) then 1 + 2 * (sn : Int) + (3 * at' + ch) else -1) = K at a1
  have d1 := h.d1; have d3 := h.d3; have d7 := h.d7; have ne := h.mem.ne
  have dq : ∀ x ∈ blk q, x ≠ b ∧ x ≠ a := fun x hx => ⟨fun e => d1.2.2.1 (e ▸ hx), fun e => d1.2.2.2 (e ▸ hx)⟩
  obtain ⟨M1, m1, m2, m3⟩ := load_spec h.mem (by omega) K
  obtain ⟨M2, r1, r2, r3⟩ := rload_spec (h.ref.same m3 (by simp; omega) (fun x hx => by have := dq x hx; simp; omega)) (by omega) K
  generalize hT : IntKind.wrap .u64 (IntKind.wrap .u64 (getI L K + IntKind.wrap .u64 (i : Int)) + 1) = T
  obtain ⟨M3, c1, c2, c3⟩ := cas_spec (m2.same r3 (by simp; omega) (by simp; omega)) (by omega) (by omega) K (getI L K) T
  obtain ⟨M4, s1, s2, s3⟩ := rcas_spec (r2.same c3 (by simp; omega) (fun x hx => by have := dq x hx; simp; omega)) (by omega) (by omega) K (getI L K) T
  have keep : ∀ {x : Nat} {cs : List Value}, Rd M x cs → x ≠ b → x ≠ a → x ≠ r → x ∉ blk q → Rd M4 x cs := fun hx n1 n2 n3 n4 =>
    (((hx.same m3 (by simp; omega)).same r3 (by simp; omega)).same c3 (by simp; omega)).same s3 (by simp; exact ⟨n3, n4⟩)
  refine ⟨M4, casL L K (getI L K) T, st + 1 + 1, (if casB L K (getI L K) then wi + 1 else wi), ?_,
    ⟨c2.same s3 (by simp; exact ⟨d1.1, d1.2.2.1⟩) (by simp; exact ⟨d1.2.1, d1.2.2.2⟩), s2, ⟨h.arg.1, fun hn => ⟨pa, rfl, by have := h.d2 pa (by simp); exact keep ha this.1 this.2.1 this.2.2.1 this.2.2.2⟩⟩,
      keep h.l3 d3.1 d3.2.1 d3.2.2.1 d3.2.2.2, keep h.l7 d7.1 d7.2.1 d7.2.2.1 d7.2.2.2, h.d1, h.d2, h.d3, h.d7, by rw [casL_length]; exact h.len⟩, by omega, by split <;> omega⟩
  rw [P7_20_eq LL L_loop]
  have hw : IntKind.wrap .i64 ((i : Int) + 1) = ((i + 1 : Nat) : Int) := by rw [w64 (by omega)]; rfl
  simp only [hlt, h0, and_self, decide_true, if_true, h.l7.ld, get0, get1, intOf_int, Option.bind_some, Nat.zero_add, Int.toNat_natCast, ha.ld, e1, e2, a1, m1, tup2, boolOf_bool, r1, hT, c1, s1, beq_self_eq_true, Bool.not_true, Bool.false_eq_true, if_false,
    P7_42_eq, hw]

theorem films_loop {C : List Int} {pn : Nat} (hC : C.length = 3 * pn) (hp : pn ≤ 65536) {x y : Nat} {o : Int} {x7 : Nat} {c d : Nat} {M : AMem} (hx : Rd M x (ints .u64 C)) (hy : Rd M y (ints .u64 C)) : ∀ (k i : Nat), i + k = pn →
    P7_57 LL o x7 (some ⟨x, 0, none⟩) pn c (some ⟨y, 0, none⟩) pn d i M = P7_74 LL o x7 M := by
  intro k
  induction k with
  | zero =>
    intro i hi
    obtain rfl : i = pn := by omega
    rw [P7_57_eq LL L_loop]
    simp
  | succ k ih =>
    intro i hi
    rw [P7_57_eq LL L_loop]
    have hlt : (i : Int) < Int.ofNat pn := by rw [ofN]; omega
    have h0 : (0 : Int) ≤ (i : Int) := by omega
    have i0 := ints_nat (k := .u64) (show i * 3 < C.length by omega)
    have i1 := ints_nat (k := .u64) (show i * 3 + 1 < C.length by omega)
    have i2 := ints_nat (k := .u64) (show i * 3 + 2 < C.length by omega)
    have hw : IntKind.wrap .i64 ((i : Int) + 1) = ((i + 1 : Nat) : Int) := by rw [w64 (by omega)]; rfl
    simp only [hlt, h0, and_self, decide_true, if_true, Nat.zero_add, Int.toNat_natCast, hx.ld, hy.ld, i0, i1, i2, intOf_int, Option.bind_some, beq_self_eq_true, Bool.and_self, Bool.not_true, Bool.false_eq_true, if_false, P7_73_eq, hw]
    exact ih (i + 1) (by omega)

theorem fi_last {M : AMem} {x7 pn sn : Nat} (hr : Rt pn sn) (h7 : Rd M x7 [.int .i64 (pn : Int), .int .i64 (sn : Int)]) (o : Int) (ho : 0 ≤ o ∧ o ≤ 255) : ∃ M', P7_74 LL o x7 M = some (.bool true, M') := by
  have hr' := rt_of hr
  rw [P7_74_eq]
  obtain ⟨_, a2⟩ := size_spec pn sn
  obtain ⟨_, aw⟩ := awake31
  have hw : IntKind.wrap .i64 o = o := w64 (by omega)
  have z : (Int.ofNat 0 == 0) = true := rfl
  by_cases e : o = 1 + 2 * (sn : Int) + 3 * (pn : Int)
  · obtain ⟨M1, f1, f2⟩ := film_none (M := M) pn sn hr
    refine ⟨M1, ?_⟩
    have e' : (o == 1 + 2 * (sn : Int) + 3 * (pn : Int)) = true := by simpa using e
    simp only [h7.ld, get0, get1, intOf_int, Option.bind_some, a2, hr, if_true, hw, e', f1, sliceOf_slice, z, aw, boolOf_bool]
    simp [chkOk, List.lookup]
  · obtain ⟨M1, b, a, n1, n2, n3, n4, n5, n6, n7⟩ := new_spec o M (by omega)
    obtain ⟨M2, f1, f2⟩ := film_other n2 pn sn hr (by simp; omega)
    obtain ⟨M3, f3, f4⟩ := film_none (M := M2) pn sn hr
    refine ⟨M3, ?_⟩
    have e' : (o == 1 + 2 * (sn : Int) + 3 * (pn : Int)) = false := by simpa using e
    have hv : AMem.ver M x7 = AMem.ver M1 x7 := ver_same n3 h7.lt (by simp)
    have h7' := (h7.same n3 (by simp)).same f2 (by simp)
    simp only [h7.ld, get0, get1, intOf_int, Option.bind_some, a2, hr, if_true, hw, e', Bool.false_eq_true, if_false, n1, ptrOf_ptr, f1, sliceOf_slice, z, h7'.ld, f3, aw, boolOf_bool]
    simp [chkOk, List.lookup, hv]

theorem fi_end {M : AMem} {p : Option Addr} {l : List (Int × Int × Int)} {x3 x7 b a r : Nat} {q : Option Addr} {qc pn sn : Nat} {L : List Int} {st wi : Nat} (hr : Rt pn sn) (h : Fi M p l x3 x7 b a r q qc pn sn L st wi) (o : Int) (ho : 0 ≤ o ∧ o ≤ 255) :
    ∃ M', P7_43 LL o x3 x7 (some ⟨b, 0, none⟩) r M = some (.bool true, M') := by
  have hr' := rt_of hr
  rw [P7_43_eq]
  obtain ⟨M1, x, f1, f2, f3, f4⟩ := film_spec h.mem hr h.len
  have ref1 := h.ref.same f3 (by simp) (by simp)
  obtain ⟨M2, y, yc, g1, g2, g3, g4⟩ := rfilm_spec ref1 hr h.len
  have hv : AMem.ver M x3 = AMem.ver M1 x3 := ver_same f3 h.l3.lt (by simp)
  have l3 := h.l3.same f3 (by simp)
  have l3' := l3.same g3 (by simp)
  have l7' := (h.l7.same f3 (by simp)).same g3 (by simp)
  obtain ⟨yb, rfl, g5⟩ := g2.pos (by omega)
  obtain ⟨M', k⟩ := fi_last hr l7' o ho
  refine ⟨M', ?_⟩
  have hl := films_loop (o := o) (x7 := x7) (c := 3) (d := yc) (chans_len h.len) hr'.2.1 (f2.rd.same g3 (by simp)) g5.rd pn 0 (by omega)
  simp only [h.l7.ld, get0, get1, intOf_int, Option.bind_some, f1, sliceOf_slice, l3.ld, g1, l3'.ld, ofN, bne_self_eq_false, Bool.false_eq_true, if_false]
  have hchk : chkOk [(3, 2)] [(3, x3)] [(2, (M, M1))] = true := by simp [chkOk, List.lookup, hv]
  rw [if_pos hchk]
  exact hl.trans k

theorem fi_loop {p : Option Addr} {l : List (Int × Int × Int)} {x3 x7 b a r : Nat} {q : Option Addr} {qc pn sn : Nat} (hr : Rt pn sn) (hl : l.length ≤ 30) (o : Int) (ho : 0 ≤ o ∧ o ≤ 255) :
    ∀ (d i : Nat) (M : AMem) (L : List Int) (st wi : Nat), i + d = l.length → Fi M p l x3 x7 b a r q qc pn sn L st wi → st ≤ 2 * i → wi ≤ i →
    ∃ M', P7_20 LL p l.length 0 o x3 x7 (some ⟨b, 0, none⟩) r i M = some (.bool true, M') := by
  intro d
  induction d with
  | zero =>
    intro i M L st wi hi h h1 h2
    obtain ⟨M', g⟩ := fi_end hr h o ho
    refine ⟨M', ?_⟩
    rw [P7_20_eq LL L_loop]
    have : ¬ ((i : Int) < Int.ofNat l.length) := by rw [ofN]; omega
    simp only [this, decide_false, Bool.false_eq_true, if_false]
    exact g
  | succ d ih =>
    intro i M L st wi hi h h1 h2
    obtain ⟨M1, L', st', wi', g1, g2, g4, g5⟩ := fi_step hr h (by omega) (by omega) o i (by omega) (by omega)
    obtain ⟨M', g⟩ := ih (i + 1) M1 L' st' wi' (by omega) g2 (by omega) (by omega)
    exact ⟨M', by rw [g1, g]⟩

theorem film_law (M : AMem) (pi si o : Int) (p : Option Addr) (l : List (Int × Int × Int)) (hp : RdL M encN3 p l.length l) (ho : 0 ≤ o ∧ o ≤ 255) :
    ∃ M', LL.call 7 [lay pi si, .slice p l.length 0, .int .u8 o] M = some (.bool true, M') := by
  rw [L_call7, E7]
  obtain ⟨_, aw⟩ := awake31
  obtain ⟨_, a1⟩ := right12_spec pi si
  have g0 := cells_new M [.int .i64 pi, .int .i64 si] 0
  have s0 := same_app M [AObj.cells [.int .i64 pi, .int .i64 si] ⟨false, 0⟩]
  have l0 : (M ++ [AObj.cells [.int .i64 pi, .int .i64 si] ⟨false, 0⟩]).length = M.length + 1 := by simp
  generalize M ++ [AObj.cells [.int .i64 pi, .int .i64 si] ⟨false, 0⟩] = M0 at g0 s0 l0
  by_cases hr : Rt pi si
  · by_cases c1 : pi > 20
    · simp only [g0.ld, get0, get1, intOf_int, Option.bind_some, a1, hr, boolOf_bool, decide_true, Bool.not_true, Bool.false_eq_true, if_false, c1, if_true, aw]; exact ⟨_, rfl⟩
    · by_cases c2 : si > 5
      · simp only [g0.ld, get0, get1, intOf_int, Option.bind_some, a1, hr, boolOf_bool, decide_true, decide_false, Bool.not_true, Bool.false_eq_true, if_false, c1, c2, if_true, aw]; exact ⟨_, rfl⟩
      · by_cases c3 : Int.ofNat l.length > 30
        · simp only [g0.ld, get0, get1, intOf_int, Option.bind_some, a1, hr, boolOf_bool, decide_true, decide_false, Bool.not_true, Bool.false_eq_true, if_false, c1, c2, c3, if_true, aw]; exact ⟨_, rfl⟩
        · obtain ⟨pn, sn, rfl, rfl⟩ : ∃ pn sn : Nat, pi = pn ∧ si = sn := ⟨pi.toNat, si.toNat, by unfold Rt at hr; omega, by unfold Rt at hr; omega⟩
          have hr' := rt_of hr
          obtain ⟨_, a2⟩ := of31 pn sn
          obtain ⟨M1, w1, w2, w3, w4⟩ := (cells_new M0 [.int .i64 0, .int .i64 0] 0).wr (o := 0) (vs := [.int .i64 (pn : Int), .int .i64 (sn : Int)]) (by simp)
          simp only [wrL, List.set_cons_zero, List.set_cons_succ] at w2
          have s1 : Same M0 M1 [] := ((same_app M0 _).trans w3).mono' (by simp)
          obtain ⟨_, a3⟩ := size_spec pn sn
          obtain ⟨M2, b, a, n1, n2, n3, n4, n5, n6, n7⟩ := new_spec (1 + 2 * (sn : Int) + 3 * (pn : Int)) M1 (by omega)
          obtain ⟨_, a4⟩ := rsize_spec pn sn hr
          have e4 : ((1 + 2 * sn + 3 * pn : Nat) : Int) = 1 + 2 * (sn : Int) + 3 * (pn : Int) := by omega
          rw [e4] at a4
          obtain ⟨M3, q, k1, k2, k3, k4⟩ := rnew_spec (1 + 2 * (sn : Int) + 3 * (pn : Int)) M2 (by omega)
          obtain ⟨M4, y1, y2, y3, _⟩ := (cells_new M3 [.slice none 0 0, .int .i64 0, .int .i64 0] 0).wr (o := 0) (vs := [.slice q (1 + 2 * (sn : Int) + 3 * (pn : Int)).toNat 1, .int .i64 0, .int .i64 0]) (by simp)
          simp only [wrL, List.set_cons_zero, List.set_cons_succ] at y2
          have s4 : Same M3 M4 [] := ((same_app M3 _).trans y3).mono' (by simp)
          have g2 := (g0.same s1 (by simp)).same n3 (by simp)
          have hN : (1 + 2 * (sn : Int) + 3 * (pn : Int)).toNat = 1 + 2 * sn + 3 * pn := by omega
          rw [hN] at n2 k1 k2 y1 y2
          simp only [g0.ld, get0, get1, get2, intOf_int, Option.bind_some, a1, hr, boolOf_bool, decide_true, decide_false, Bool.not_true, Bool.false_eq_true, if_false, c1, c2, c3, a2, agg2, w1, w2.ld, a3, if_true, n1, ptrOf_ptr, g2.ld, a4, k1, tup2, agg3, sliceOf_slice, y1]
          have lq := k2.lt
          have m0 := s0.le; have m1 := s1.le; have m2 := n3.le; have m3 := k3.le; have m4 := s4.le
          have hrep : (List.replicate (1 + 2 * sn + 3 * pn) (0 : Int)).length = 1 + 2 * sn + 3 * pn := by simp
          have hml : M1.length = M0.length + 1 := by rw [w4]; simp
          have hall := (((s0.trans s1).trans n3).trans k3).trans s4
          have hmem : IsMem M4 b a (List.replicate (1 + 2 * sn + 3 * pn) 0) 0 0 := (n2.same k3 (by simp) (by simp)).same s4 (by simp) (by simp)
          have href : IsRef M4 M3.length q 1 (List.replicate (1 + 2 * sn + 3 * pn) 0) 0 0 := ⟨by rw [hrep]; exact y2, by rw [hrep]; exact k2.same s4 (by simp), fun hx => by have := lq _ hx; omega⟩
          have hd1 : b ≠ M3.length ∧ a ≠ M3.length ∧ b ∉ blk q ∧ a ∉ blk q := ⟨by omega, by omega, fun hx => by have := k4 _ hx; omega, fun hx => by have := k4 _ hx; omega⟩
          have f3 : Rd M4 M.length [.int .i64 (pn : Int), .int .i64 (sn : Int)] := ((g2.same k3 (by simp)).same s4 (by simp)).rd
          have f7 : Rd M4 M0.length [.int .i64 (pn : Int), .int .i64 (sn : Int)] := (((w2.same n3 (by simp)).same k3 (by simp)).same s4 (by simp)).rd
          have hln : l.length ≤ 30 := by rw [ofN] at c3; omega
          have d3 : M.length ≠ b ∧ M.length ≠ a ∧ M.length ≠ M3.length ∧ M.length ∉ blk q := ⟨by omega, by omega, by omega, fun hx => by have := k4 _ hx; omega⟩
          have d7 : M0.length ≠ b ∧ M0.length ≠ a ∧ M0.length ≠ M3.length ∧ M0.length ∉ blk q := ⟨by omega, by omega, by omega, fun hx => by have := k4 _ hx; omega⟩
          by_cases hl0 : l.length = 0
          · obtain ⟨M', g⟩ := fi_end (p := none) (l := []) hr ⟨hmem, href, ⟨rfl, fun h => by simp at h⟩, f3, f7, hd1, by simp, d3, d7, hrep⟩ o ho
            refine ⟨M', ?_⟩
            rw [P7_20_eq LL L_loop]
            have : ¬ ((0 : Int) < Int.ofNat l.length) := by rw [hl0]; decide
            simp only [this, decide_false, Bool.false_eq_true, if_false]
            exact g
          · exact fi_loop hr hln o ho l.length 0 M4 _ 0 0 (by omega) ⟨hmem, href, hp.same hall (by simp), f3, f7, hd1, fun x hx => by
              have := hp.lt (by omega) x hx
              exact ⟨by omega, by omega, by omega, fun hq => by have := k4 _ hq; omega⟩, d3, d7, hrep⟩ (by omega) (by omega)
  · simp only [g0.ld, get0, get1, intOf_int, Option.bind_some, a1, hr, boolOf_bool, decide_false, Bool.not_false, if_true, aw]; exact ⟨_, rfl⟩

open Go.ChangeShapes Go.WideShapes Go.ChangeAt Go.RowKit

theorem film_main (A : AMem) (vs : List Value) (h : HoldsA A [(true, [.int .i64, .int .i64]), (false, [.slice [.int .i64, .int .i64, .int .i64]]), (false, [.int .u8])] vs) :
    ∃ A', (lim env).call 7 vs A = some (.bool true, A') := by
  obtain ⟨_, _, rfl, hl, _, _, rfl, hs, _, _, rfl, ho, rfl⟩ := h
  simp only [HoldsV, HoldsL, Holds, Bool.false_eq_true, if_false, if_true] at hl ho
  unfold HoldsV at hs
  rw [if_neg (by simp)] at hs
  obtain ⟨cs, rfl, _, _, hcs, ⟨pn, rfl, _⟩, _, _, rfl, ⟨sn, rfl, _⟩, rfl⟩ := hl
  obtain rfl : cs = #[.int .i64 pn, .int .i64 sn] := Array.toList_inj.1 hcs
  obtain ⟨_, _, e, ⟨o, rfl, hw⟩, rfl⟩ := ho; cases e
  obtain ⟨v', _, e, hs, h'⟩ := holdsL_cons hs
  cases e
  obtain ⟨p, l, rfl, h1, h2, h3⟩ := holds_list encN3 (fun _ => True) (by simp) hs fun cs hc => by
    simp only [HoldsL, Holds] at hc
    obtain ⟨_, _, rfl, ⟨x0, rfl, _⟩, _, _, rfl, ⟨x1, rfl, _⟩, _, _, rfl, ⟨x2, rfl, _⟩, rfl⟩ := hc
    exact ⟨(x0, x1, x2), trivial, rfl⟩
  have := film_law A pn sn o p l h1 (bounds_u8 hw)
  rw [LL_lim] at this
  exact this

theorem layoutFilm_lifted (os : Os) (started : os.Started) (H : Type) (enc : TypeId × Value → H) :
    ReturnsInHanded {} Try.checked os 7 .any (Rows.layoutFilmSpec.pre6 enc Try.prog Try.f7 Rows.layoutFilmRow.domain false) (Rows.layoutFilmSpec.post enc Try.prog Try.f7 false true false false) :=
  lifted_of_args (C := Try.checked) (E := env) (by kernel_rfl) started (by kernel_rfl) Try.func7
    (ChangeSpec.witness6 (enc := enc) (C := Try.checked) false ⟨#[], #[.agg #[.int .i64 0, .int .i64 0], .slice none 0 0, .int .u8 0], []⟩ 8 (by kernel_rfl) (by kernel_rfl) (by kernel_rfl) (by kernel_rfl))
    (by kernel_rfl) (by kernel_rfl) (by kernel_rfl : Try.f7.resultTypes = #[4]) (by kernel_rfl) rfl
    (fun ds hd => by
      match ds, hd with
      | [d1, d2, d3], _ => rfl) envOk (by kernel_rfl) (by kernel_rfl) film_main

theorem layoutFilm_holds : Rows.LayoutFilmSaid :=
  OpenClaim.holds_of_wide 7 Try.f7 rfl rfl rfl rfl rfl rfl rfl ⟨rfl, rfl, rfl, rfl, rfl⟩ rfl rfl rfl rfl rfl (by kernel_rfl) Try.func7 (by kernel_rfl)
    (of_decide_eq_true (by kernel_rfl)) (by unfold Func.isWrapper; rw [if_neg (of_decide_eq_false (by kernel_rfl))]; exact ⟨rfl, rfl⟩)
    (fun os started H enc _ => layoutFilm_lifted os started H enc)


end Go.Proofs.Ytaepdefnomcllaa
