/- What the document's list of cells is, and what is found in it. -/
import Derived.Test.YtaepdefnomcllaaLaw31
import Derived.Test.YtaepdefnomcllaaAxOwn
set_option linter.unusedVariables false
set_option linter.unusedSimpArgs false
namespace Go.Proofs.Ytaepdefnomcllaa
open Go Go.Ax

def encN (x : Int × Int × Int) : List Value := [.int .i64 x.1, .int .i64 x.2.1, .int .i64 x.2.2]

theorem encN_len (x : Int × Int × Int) : (encN x).length = 3 := rfl

/-- The first names. -/
def names (s : Int) (m : Nat) : List Value := ((List.range m).map fun k => ofZ s (k : Nat)).flatMap encN

theorem names_succ (s : Int) (m : Nat) : names s (m + 1) = names s m ++ encN (ofZ s m) := by
  simp [names, List.range_succ]

theorem names_len (s : Int) (m : Nat) : (names s m).length = m * 3 := by
  unfold names; rw [flatMap_length encN_len]; simp

theorem all_loop1 (x1 pn sn : Nat) (hs : sn ≤ 256) (hp : pn ≤ 65536) : ∀ (d j : Nat) (M : AMem) (p : Option Addr) (c : Nat), j + d = sn → Cells M x1 [.int .i64 pn, .int .i64 sn] →
    Slc M 3 p (1 + j) c (names sn (1 + j)) → x1 ∉ blk p → ∃ M' p' c', P14_16 LL x1 p (1 + j) c j M = P14_27 LL x1 p' (1 + sn) c' M' ∧
      Slc M' 3 p' (1 + sn) c' (names sn (1 + sn)) ∧ Grn M p M' p' := by
  intro d
  induction d with
  | zero =>
    intro j M p c hj hx ho hn
    obtain rfl : j = sn := by omega
    refine ⟨M, p, c, ?_, ho, .refl _ _⟩
    rw [P14_16_eq LL L_loop]
    simp [hx.ld]
  | succ d ih =>
    intro j M p c hj hx ho hn
    obtain ⟨M1, h1, h2, h3⟩ := grn_row (bytes := 24) (new := encN (2, (j : Int), 0)) (m := 1) (v := 0) ho rfl (by omega) (by omega)
    have e : ofZ sn (1 + j : Nat) = (2, (j : Int), 0) := by
      unfold ofZ
      rw [if_neg (by omega), if_pos (by omega)]
      refine Prod.ext rfl (Prod.ext ?_ rfl)
      show ((1 + j : Nat) : Int) - 1 = j
      omega
    rw [← e, ← names_succ] at h2
    obtain ⟨M', p', c', k1, k2, k3⟩ := ih (j + 1) M1 _ 3 (by omega) (hx.same h3.same hn) h2 (h3.not hx.lt hn)
    refine ⟨M', p', c', ?_, k2, h3.trans k3⟩
    rw [← k1, P14_16_eq LL L_loop]
    have hlt : (j : Int) < (sn : Int) := by omega
    have := rowOf_new M 3 1 (encN (2, (j : Int), 0)) 0 3 rfl
    unfold encN at this h1
    simp only [hx.ld, get0, get1, intOf_int, Option.bind_some, hlt, decide_true, if_true, this, h1, P14_26_eq, w64 (n := (j : Int) + 1) (by omega)]
    rfl

theorem all_loop2 (x1 pn sn : Nat) (hs : sn ≤ 256) (hp : pn ≤ 65536) : ∀ (d j : Nat) (M : AMem) (p : Option Addr) (c : Nat), j + d = sn → Cells M x1 [.int .i64 pn, .int .i64 sn] →
    Slc M 3 p (1 + sn + j) c (names sn (1 + sn + j)) → x1 ∉ blk p → ∃ M' p' c', P14_31 LL x1 p (1 + sn + j) c j M = P14_42 LL x1 p' (1 + sn + sn) c' M' ∧
      Slc M' 3 p' (1 + sn + sn) c' (names sn (1 + sn + sn)) ∧ Grn M p M' p' := by
  intro d
  induction d with
  | zero =>
    intro j M p c hj hx ho hn
    obtain rfl : j = sn := by omega
    refine ⟨M, p, c, ?_, ho, .refl _ _⟩
    rw [P14_31_eq LL L_loop]
    simp [hx.ld]
  | succ d ih =>
    intro j M p c hj hx ho hn
    obtain ⟨M1, h1, h2, h3⟩ := grn_row (bytes := 24) (new := encN (3, (j : Int), 0)) (m := 1) (v := 0) ho rfl (by omega) (by omega)
    have e : ofZ sn (1 + sn + j : Nat) = (3, (j : Int), 0) := by
      unfold ofZ
      rw [if_neg (by omega), if_neg (by omega), if_pos (by omega)]
      refine Prod.ext rfl (Prod.ext ?_ rfl)
      show ((1 + sn + j : Nat) : Int) - (1 + sn) = j
      omega
    rw [← e, ← names_succ] at h2
    obtain ⟨M', p', c', k1, k2, k3⟩ := ih (j + 1) M1 _ 3 (by omega) (hx.same h3.same hn) h2 (h3.not hx.lt hn)
    refine ⟨M', p', c', ?_, k2, h3.trans k3⟩
    rw [← k1, P14_31_eq LL L_loop]
    have hlt : (j : Int) < (sn : Int) := by omega
    have := rowOf_new M 3 1 (encN (3, (j : Int), 0)) 0 3 rfl
    unfold encN at this h1
    simp only [hx.ld, get0, get1, intOf_int, Option.bind_some, hlt, decide_true, if_true, this, h1, P14_41_eq, w64 (n := (j : Int) + 1) (by omega)]
    rfl

theorem all_loop3 (x1 pn sn : Nat) (hs : sn ≤ 256) (hp : pn ≤ 65536) : ∀ (d j : Nat) (M : AMem) (p : Option Addr) (c : Nat), j + d = 3 * pn → Cells M x1 [.int .i64 pn, .int .i64 sn] →
    Slc M 3 p (1 + sn + sn + j) c (names sn (1 + sn + sn + j)) → x1 ∉ blk p → ∃ M' p' c', P14_46 LL x1 p (1 + sn + sn + j) c j M = some (.slice p' (1 + sn + sn + 3 * pn) c', M') ∧
      Slc M' 3 p' (1 + sn + sn + 3 * pn) c' (names sn (1 + sn + sn + 3 * pn)) ∧ Grn M p M' p' := by
  intro d
  induction d with
  | zero =>
    intro j M p c hj hx ho hn
    obtain rfl : j = 3 * pn := by omega
    refine ⟨M, p, c, ?_, ho, .refl _ _⟩
    rw [P14_46_eq LL L_loop]
    simp [hx.ld, w64 (n := 3 * (pn : Int)) (by omega), P14_57_eq]
  | succ d ih =>
    intro j M p c hj hx ho hn
    obtain ⟨M1, h1, h2, h3⟩ := grn_row (bytes := 24) (new := encN (4, (j : Int) / 3, (j : Int) % 3)) (m := 1) (v := 0) ho rfl (by omega) (by omega)
    have e : ofZ sn (1 + sn + sn + j : Nat) = (4, (j : Int) / 3, (j : Int) % 3) := by
      unfold ofZ
      rw [if_neg (by omega), if_neg (by omega), if_neg (by omega)]
      have : ((1 + sn + sn + j : Nat) : Int) - (1 + 2 * sn) = j := by omega
      rw [this]
    rw [← e, ← names_succ] at h2
    obtain ⟨M', p', c', k1, k2, k3⟩ := ih (j + 1) M1 _ 3 (by omega) (hx.same h3.same hn) h2 (h3.not hx.lt hn)
    refine ⟨M', p', c', ?_, k2, h3.trans k3⟩
    rw [← k1, P14_46_eq LL L_loop]
    have hlt : (j : Int) < 3 * (pn : Int) := by omega
    have := rowOf_new M 3 1 (encN (4, (j : Int) / 3, (j : Int) % 3)) 0 3 rfl
    unfold encN at this h1
    simp only [hx.ld, get0, get1, intOf_int, Option.bind_some, w64 (n := 3 * (pn : Int)) (by omega), Int.tdiv_eq_ediv_of_nonneg (show (0 : Int) ≤ (j : Int) by omega), Int.tmod_eq_emod_of_nonneg (show (0 : Int) ≤ (j : Int) by omega), w64 (n := (j : Int) / 3) (by omega), hlt, decide_true, if_true, this, h1, P14_56_eq, w64 (n := (j : Int) + 1) (by omega)]
    rfl

/-- How many cells there are. -/
def sizeN (pn sn : Nat) : Nat := 1 + sn + sn + 3 * pn

theorem all_spec (pn sn : Nat) (hr : Rt pn sn) (M : AMem) : ∃ M' p' c', LL.call 14 [lay pn sn] M = some (.slice p' (sizeN pn sn) c', M') ∧
    Slc M' 3 p' (sizeN pn sn) c' (names sn (sizeN pn sn)) ∧ Same M M' [] := by
  have hr' := hr
  unfold Rt at hr'
  rw [L_call14, E14]
  obtain ⟨_, h1⟩ := right12_spec pn sn
  have g0 := cells_new M [.int .i64 (pn : Int), .int .i64 (sn : Int)] 0
  have s0 := same_app M [AObj.cells [.int .i64 (pn : Int), .int .i64 (sn : Int)] ⟨false, 0⟩]
  generalize hM0 : M ++ [AObj.cells [.int .i64 (pn : Int), .int .i64 (sn : Int)] ⟨false, 0⟩] = M0 at g0 s0
  have hl0 : M0.length = M.length + 1 := by rw [← hM0]; simp
  have g1 := cells_new M0 [.int .i64 1, .int .i64 0, .int .i64 0] 0
  have s1 := same_app M0 [AObj.cells [.int .i64 1, .int .i64 0, .int .i64 0] ⟨false, 0⟩]
  have g0' := g0.same s1 (by simp)
  generalize hM1 : M0 ++ [AObj.cells [.int .i64 1, .int .i64 0, .int .i64 0] ⟨false, 0⟩] = M1 at g1 s1 g0'
  simp only [g0.ld, get0, get1, intOf_int, Option.bind_some, h1, hr, decide_true, boolOf_bool, Bool.not_true, Bool.false_eq_true, if_false]
  have n1 : names sn (1 + 0) = [.int .i64 1, .int .i64 0, .int .i64 0] := by simp [names, ofZ, encN]
  obtain ⟨M2, p2, c2, k1, k2, k3⟩ := all_loop1 M.length pn sn (by omega) (by omega) sn 0 M1 (some ⟨M0.length, 0, none⟩) 3 (by omega) g0' (by rw [n1]; exact .of g1 rfl) (by simp; omega)
  have l1 : M1.length = M0.length + 1 := by rw [← hM1]; simp
  have q2 : M.length ∉ blk p2 := k3.not (by omega) (by simp; omega)
  have g2 := g0'.same k3.same (by simp; omega)
  obtain ⟨M3, p3, c3, j1, j2, j3⟩ := all_loop2 M.length pn sn (by omega) (by omega) sn 0 M2 p2 c2 (by omega) g2 k2 q2
  obtain ⟨M4, p4, c4, i1, i2, i3⟩ := all_loop3 M.length pn sn (by omega) (by omega) (3 * pn) 0 M3 p3 c3 (by omega) (g2.same j3.same q2) j2 (j3.not g2.lt q2)
  refine ⟨M4, p4, c4, ?_, i2, ?_⟩
  · simp only [Nat.add_zero, Int.natCast_zero] at k1 j1 i1
    exact k1.trans ((P14_27_eq ..).trans (j1.trans ((P14_42_eq ..).trans i1)))
  · refine ((s0.trans s1).trans ((k3.trans j3).trans i3).same).mono' fun b hb hlt => ?_
    simp at hb
    omega

/-- The first place of a name from i on, among d. -/
def findF (s : Int) (nm : Int × Int × Int) : Nat → Nat → Int
  | 0, _ => -1
  | d + 1, i => if ofZ s (i : Nat) = nm then i else findF s nm d (i + 1)

theorem names_get (s : Int) (m i j : Nat) (hi : i < m) (hj : j < 3) : (names s m)[i * 3 + j]? = (encN (ofZ s (i : Nat)))[j]? :=
  flat_get encN_len _ i j _ (by simp [hi]) hj

theorem find_loop (sn N : Nat) (hN : N ≤ 1000000) (a : Nat) (c : Nat) (nm : Int × Int × Int) (M : AMem) (ha : Rd M a (names sn N)) (h1 : Rd M 1 (encN nm)) : ∀ (d i : Nat), i + d = N →
    P18_8 LL (some ⟨a, 0, none⟩) N c i M = some (.int .i64 (findF sn nm d i), M) := by
  intro d
  induction d with
  | zero =>
    intro i hi
    rw [P18_8_eq LL L_loop]
    have : ¬ ((i : Int) < Int.ofNat N) := by show ¬ ((i : Int) < (N : Int)); omega
    simp only [this, decide_false, Bool.false_eq_true, if_false, P18_25_eq, findF]
  | succ d ih =>
    intro i hi
    have hlt : (i : Int) < Int.ofNat N := by show (i : Int) < (N : Int); omega
    have h0 : (0 : Int) ≤ (i : Int) := by omega
    rw [P18_8_eq LL L_loop]
    have e0 := names_get sn N i 0 (by omega) (by omega)
    have e1 := names_get sn N i 1 (by omega) (by omega)
    have e2 := names_get sn N i 2 (by omega) (by omega)
    simp only [encN, get0, get1, get2, Nat.add_zero] at e0 e1 e2
    obtain ⟨n0, n1, n2⟩ := nm
    simp only [hlt, h0, decide_true, if_true, and_self, Int.toNat_natCast, Nat.zero_add, ha.ld, h1.ld, encN, e0, e1, e2, get0, get1, get2, intOf_int, Option.bind_some, findF]
    generalize ofZ sn (i : Nat) = x
    obtain ⟨x0, x1, x2⟩ := x
    by_cases q : (x0, x1, x2) = (n0, n1, n2)
    · cases q
      simp
    · rw [if_neg q]
      have hq : (x0 == n0 && (x1 == n1 && x2 == n2)) = false := by
        simp only [Prod.mk.injEq] at q
        simp only [Bool.and_eq_false_iff, beq_eq_false_iff_ne]
        by_cases a0 : x0 = n0
        · by_cases a1 : x1 = n1
          · exact .inr (.inr fun a2 => q ⟨a0, a1, a2⟩)
          · exact .inr (.inl a1)
        · exact .inl a0
      simp only [hq, Bool.false_eq_true, if_false, P18_24_eq, w64 (n := (i : Int) + 1) (by omega)]
      exact ih (i + 1) (by omega)

theorem find_spec (pn sn : Nat) (hr : Rt pn sn) (nm : Int × Int × Int) : ∃ M, LL.call 18 [lay pn sn, nam nm] [] = some (.int .i64 (findF sn nm (sizeN pn sn) 0), M) := by
  rw [L_call18, E18]
  obtain ⟨M', p', c', h1, h2, h3⟩ := all_spec pn sn hr [AObj.cells [.int .i64 (pn : Int), .int .i64 (sn : Int)] ⟨false, 0⟩, AObj.cells [.int .i64 nm.1, .int .i64 nm.2.1, .int .i64 nm.2.2] ⟨false, 0⟩]
  obtain ⟨a, rfl, h4⟩ := h2.pos (by unfold sizeN; omega)
  have hr' := hr
  unfold Rt at hr'
  have := find_loop sn (sizeN pn sn) (by unfold sizeN; omega) a c' nm M' h4.rd (Rd.same (M := [AObj.cells [.int .i64 (pn : Int), .int .i64 (sn : Int)] ⟨false, 0⟩, AObj.cells [.int .i64 nm.1, .int .i64 nm.2.1, .int .i64 nm.2.2] ⟨false, 0⟩]) ⟨⟨false, 0⟩, rfl⟩ h3 (by simp)) (sizeN pn sn) 0 (by omega)
  refine ⟨M', ?_⟩
  simp only [h1, Option.bind_some, sliceOf_slice]
  exact this

theorem all_not (p s : Int) (hr : ¬ Rt p s) (M : AMem) : ∃ M', LL.call 14 [lay p s] M = some (.slice none 0 0, M') ∧ Same M M' [] := by
  rw [L_call14, E14]
  obtain ⟨_, h1⟩ := right12_spec p s
  have g0 := cells_new M [.int .i64 p, .int .i64 s] 0
  simp only [g0.ld, get0, get1, intOf_int, Option.bind_some, h1, hr, decide_false, boolOf_bool, Bool.not_false, if_true]
  exact ⟨_, rfl, same_app _ _⟩

theorem find_not (p s : Int) (hr : ¬ Rt p s) (nm : Int × Int × Int) : ∃ M, LL.call 18 [lay p s, nam nm] [] = some (.int .i64 (-1), M) := by
  rw [L_call18, E18]
  obtain ⟨M', h1, _⟩ := all_not p s hr [AObj.cells [.int .i64 p, .int .i64 s] ⟨false, 0⟩, AObj.cells [.int .i64 nm.1, .int .i64 nm.2.1, .int .i64 nm.2.2] ⟨false, 0⟩]
  refine ⟨M', ?_⟩
  simp only [h1, Option.bind_some, sliceOf_slice]
  rw [P18_8_eq LL L_loop]
  simp [P18_25_eq]

theorem findF_none (s : Int) (nm : Int × Int × Int) : ∀ (d i : Nat), (∀ k : Nat, i ≤ k → k < i + d → ofZ s (k : Nat) ≠ nm) → findF s nm d i = -1
  | 0, i, _ => rfl
  | d + 1, i, h => by
    rw [findF, if_neg (h i (by omega) (by omega))]
    exact findF_none s nm d (i + 1) fun k h1 h2 => h k (by omega) (by omega)

theorem findF_some (s : Int) (nm : Int × Int × Int) (k : Nat) (hk : ofZ s (k : Nat) = nm) : ∀ (d i : Nat), i ≤ k → k < i + d → (∀ j : Nat, j < k → ofZ s (j : Nat) ≠ nm) → findF s nm d i = k
  | 0, i, h1, h2, _ => by omega
  | d + 1, i, h1, h2, h => by
    rw [findF]
    by_cases e : i = k
    · subst e; rw [if_pos hk]
    · rw [if_neg (h i (by omega))]
      exact findF_some s nm k hk d (i + 1) (by omega) (by omega) h

end Go.Proofs.Ytaepdefnomcllaa
