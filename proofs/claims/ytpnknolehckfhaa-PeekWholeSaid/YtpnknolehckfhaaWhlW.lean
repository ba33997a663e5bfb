/- Is a film the sum of some whole jobs: the walk. -/
import Derived.Test.YtpnknolehckfhaaWhlS
import Derived.Test.YtpnknolehckfhaaPeekN
import Derived.Test.YtpnknolehckfhaaFlushR
set_option linter.unusedVariables false
set_option linter.unusedSimpArgs false
namespace Go.Proofs.Ytpnknolehckfhaa
open Go Go.Ax

theorem ofI64 {a : Nat} (h : a < 9223372036854775808) : (BitVec.ofInt (IntKind.bits .i64) (a : Int)).toNat = a := by
  show (BitVec.ofInt 64 (a : Int)).toNat = a
  rw [BitVec.ofInt_natCast, BitVec.toNat_ofNat]
  exact Nat.mod_eq_of_lt (by omega)

theorem and64 {a b : Nat} (ha : a < 9223372036854775808) (hb : b < 9223372036854775808) :
    IntKind.wrap .i64 (Int.ofNat (BitVec.toNat (BitVec.ofInt (IntKind.bits .i64) (a : Int) &&& BitVec.ofInt (IntKind.bits .i64) (b : Int)))) = ((a &&& b : Nat) : Int) := by
  rw [BitVec.toNat_and, ofI64 ha, ofI64 hb, ofN]
  have : a &&& b ≤ b := Nat.and_le_right
  exact w64 (by omega)

theorem fdivN' (x k : Nat) : Int.fdiv (x : Int) (2 ^ k) = ((x / 2 ^ k : Nat) : Int) := by
  rw [Int.fdiv_eq_ediv_of_nonneg _ (by have := Nat.two_pow_pos k; exact_mod_cast Nat.zero_le _)]
  norm_cast

theorem bit64 {k i : Nat} (hk : k < 64) (hi : i < 64) :
    ((IntKind.wrap .i64 (Int.ofNat (BitVec.toNat (BitVec.ofInt (IntKind.bits .i64) (Int.fdiv (k : Int) (2 ^ (min i (IntKind.bits .i64)))) &&& BitVec.ofInt (IntKind.bits .i64) 1)))) == 0) = !k.testBit i := by
  have e : min i (IntKind.bits .i64) = i := by
    show min i 64 = i
    omega
  have hd : k / 2 ^ i ≤ k := Nat.div_le_self _ _
  have := and64 (a := k / 2 ^ i) (b := 1) (by omega) (by omega)
  rw [e, fdivN']
  rw [show ((1 : Nat) : Int) = 1 from rfl] at this
  rw [this, Nat.and_one_is_mod, Nat.testBit_eq_decide_div_mod_eq]
  have hm := Nat.mod_two_eq_zero_or_one (k / 2 ^ i)
  rcases hm with h | h <;> rw [h] <;> simp

theorem wrL3 (W : List Int) (o : Nat) (a b c : Int) : wrL (ints .u64 W) o [.int .u64 a, .int .u64 b, .int .u64 c] = ints .u64 (((W.set o a).set (o + 1) b).set (o + 2) c) := by
  simp only [wrL, ints, List.map_set]

theorem wh_in {N x12 x5 i : Nat} {x2 : Option Addr} {x2n x2c : Nat} {x3 x4 x11 : Int} {q : Option Addr} {js : List Jb} {j : Jb} {P : Nat} {A : List (Int × Int)} (hji : js[i]? = some j) (hpx : ∀ e ∈ j.es, 0 ≤ e.px ∧ e.px < (P : Int)) (hl : j.es.length ≤ 1000) (hN : N ≤ x12) (hP : P ≤ 1000) :
    ∀ (d e : Nat) (M : AMem) (W : List Int), e + d = j.es.length → Jobs N M q js → Cells M x12 (ints .u64 W) → WInv (3 * P) W (A ++ (j.es.take e).flatMap enF) →
    ∃ M' W', P22_47 LL q js.length 0 x2 x2n x2c x3 x4 x5 x11 x12 P (i : Int) (e : Int) M = P22_62 LL q js.length 0 x2 x2n x2c x3 x4 x5 x11 x12 P (i : Int) M' ∧ Cells M' x12 (ints .u64 W') ∧ WInv (3 * P) W' (A ++ j.es.flatMap enF) ∧ Same M M' [x12] := by
  intro d
  have hil := (List.getElem?_eq_some_iff.1 hji).1
  have hjm := List.mem_of_getElem? hji
  have hg : (0 : Int) ≤ (i : Int) ∧ (i : Int) < Int.ofNat js.length := by rw [ofN]; omega
  induction d with
  | zero =>
    intro e M W he hj h12 hW
    obtain ⟨z, rfl, hz, l0, l1⟩ := hj.ld hji
    rw [P22_47_eq LL L_loop]
    simp only [↓if_pos hg, Nat.zero_add, Int.toNat_natCast, ↓bLS l1]
    rw [ifDn (by rw [ofN]; omega)]
    rw [List.take_of_length_le (by omega)] at hW
    exact ⟨M, W, rfl, h12, hW, .refl _ _⟩
  | succ d ih =>
    intro e M W he hj h12 hW
    obtain ⟨z, rfl, hz, l0, l1⟩ := hj.ld hji
    have hel : e < j.es.length := by omega
    obtain ⟨en, hen⟩ : ∃ en, j.es[e]? = some en := ⟨_, List.getElem?_eq_getElem hel⟩
    have hem := List.mem_of_getElem? hen
    obtain ⟨hp0, hp1⟩ := hpx en hem
    obtain ⟨px, hpxe⟩ : ∃ px : Nat, en.px = (px : Int) := ⟨en.px.toNat, by omega⟩
    obtain ⟨zz, hjp, hzz⟩ := (hj.es j hjm).1.2 (by omega)
    rw [hjp] at l1
    obtain ⟨m0, m1, m2, m3⟩ := ent_ld hzz hen
    have hg2 : (0 : Int) ≤ (e : Int) ∧ (e : Int) < Int.ofNat j.es.length := by rw [ofN]; omega
    have hw : IntKind.wrap .i64 ((e : Int) + 1) = ((e + 1 : Nat) : Int) := by rw [w64 (by omega)]; rfl
    have s1 := same_app M [AObj.cells [.int .i64 0, .int .u64 0, .int .u64 0, .int .u64 0] ⟨false, 0⟩]
    have g1 := cells_new M [.int .i64 0, .int .u64 0, .int .u64 0, .int .u64 0] 0
    have l1' : (M ++ [AObj.cells [.int .i64 0, .int .u64 0, .int .u64 0, .int .u64 0] ⟨false, 0⟩]).length = M.length + 1 := by simp
    have hlt := h12.lt
    -- the entry is copied
    obtain ⟨M1, w1, w2, w3, w4⟩ := g1.wr (o := 0) (vs := encE en) (by simp [encE])
    have w2' : Cells M1 M.length (encE en) := by simpa [wrL, encE] using w2
    have t1 : Same M M1 [] := (s1.trans w3).mono' (fun b hb hl => by simp at hb; omega)
    have u0 : M1.ld M.length 0 = some (.int .i64 en.px) := w2'.ld 0
    have h121 := h12.same t1 (by simp)
    have hWl := hW.1
    obtain ⟨f0, f1, f2⟩ := film3 (i := px) h121.rd hWl (by omega)
    -- the pixel is copied
    have s2 := same_app M1 [AObj.cells [.int .u64 0, .int .u64 0, .int .u64 0] ⟨false, 0⟩]
    have g2 := cells_new M1 [.int .u64 0, .int .u64 0, .int .u64 0] 0
    have l2 : (M1 ++ [AObj.cells [.int .u64 0, .int .u64 0, .int .u64 0] ⟨false, 0⟩]).length = M1.length + 1 := by simp
    obtain ⟨M2, v1, v2, v3, v4⟩ := g2.wr (o := 0) (vs := [.int .u64 (W.getD (px * 3) 0), .int .u64 (W.getD (px * 3 + 1) 0), .int .u64 (W.getD (px * 3 + 2) 0)]) (by simp)
    have v2' : Cells M2 M1.length [.int .u64 (W.getD (px * 3) 0), .int .u64 (W.getD (px * 3 + 1) 0), .int .u64 (W.getD (px * 3 + 2) 0)] := by simpa [wrL] using v2
    have t2 : Same M1 M2 [] := (s2.trans v3).mono' (fun b hb hl => by simp at hb; omega)
    have w22 := w2'.same t2 (by simp)
    have h122 := h121.same t2 (by simp)
    have c0 : M2.ld M.length 0 = some (.int .i64 en.px) := w22.ld 0
    have c1 : M2.ld M.length 1 = some (.int .u64 en.w0) := w22.ld 1
    have c2 : M2.ld M.length 2 = some (.int .u64 en.w1) := w22.ld 2
    have c3 : M2.ld M.length 3 = some (.int .u64 en.w2) := w22.ld 3
    have d0 : M2.ld M1.length 0 = some (.int .u64 (W.getD (px * 3) 0)) := v2'.ld 0
    have d1 : M2.ld M1.length 1 = some (.int .u64 (W.getD (px * 3 + 1) 0)) := v2'.ld 1
    have d2 : M2.ld M1.length 2 = some (.int .u64 (W.getD (px * 3 + 2) 0)) := v2'.ld 2
    -- and added
    obtain ⟨M3, x1, x2', x3', x4'⟩ := h122.wr (o := px * 3) (vs := [.int .u64 (IntKind.wrap .u64 (W.getD (px * 3) 0 + en.w0)), .int .u64 (IntKind.wrap .u64 (W.getD (px * 3 + 1) 0 + en.w1)), .int .u64 (IntKind.wrap .u64 (W.getD (px * 3 + 2) 0 + en.w2))]) (by simp; omega)
    rw [wrL3] at x2'
    have t3 : Same M M3 [x12] := ((t1.trans t2).trans x3').mono (by simp)
    have hW1 := winv_add hW (a := (3 * en.px, en.w0)) (i := px * 3) (by simp only; omega) (by omega)
    have hW2 := winv_add hW1 (a := (3 * en.px + 1, en.w1)) (i := px * 3 + 1) (by simp only; omega) (by omega)
    have hW3 := winv_add hW2 (a := (3 * en.px + 2, en.w2)) (i := px * 3 + 2) (by simp only; omega) (by omega)
    have r1 : ∀ v, (W.set (px * 3) v).getD (px * 3 + 1) 0 = W.getD (px * 3 + 1) 0 := fun v => by rw [getD_set (by omega), if_neg (by omega)]
    have r2 : ∀ v v', ((W.set (px * 3) v).set (px * 3 + 1) v').getD (px * 3 + 2) 0 = W.getD (px * 3 + 2) 0 := fun v v' => by rw [getD_set (by rw [List.length_set]; omega), if_neg (by omega), getD_set (by omega), if_neg (by omega)]
    rw [r2, r1] at hW3
    have hA : A ++ (j.es.take e).flatMap enF ++ [(3 * en.px, en.w0)] ++ [(3 * en.px + 1, en.w1)] ++ [(3 * en.px + 2, en.w2)] = A ++ (j.es.take (e + 1)).flatMap enF := by
      rw [List.take_add_one, hen]; simp [enF]
    rw [hA] at hW3
    obtain ⟨M', W', k1, k2, k3, k4⟩ := ih (e + 1) M3 _ (by omega) (hj.same t3 (fun b hb => by simp at hb; omega)) x2' hW3
    refine ⟨M', W', ?_, k2, k3, (t3.trans k4).mono (by simp)⟩
    rw [P22_47_eq LL L_loop]
    unfold encE at w1
    have hgp : (0 : Int) ≤ (px : Int) ∧ (px : Int) < Int.ofNat P := by rw [ofN]; omega
    rw [hpxe] at w1 u0 c0 m0
    simp only [↓if_pos hg, Nat.zero_add, Int.toNat_natCast, ↓bLS l1]
    rw [ifD hg2.2]
    simp only [↓if_pos hg, Nat.zero_add, Int.toNat_natCast, ↓bLS l1, ↓if_pos hg2]
    rw [bLI m0, bLI m1, bLI m2, bLI m3, bX w1, bLI u0, if_pos hgp]
    simp only [Int.toNat_natCast]
    rw [bLI f0, bLI f1, bLI f2, bX v1, bLI c0, bLI d0, bLI c1, bLI d1, bLI c2, bLI d2, bLI c3, if_pos hgp]
    simp only [Int.toNat_natCast]
    rw [bX x1, P22_61_eq, hw]
    exact k1

theorem wh_jobs {N x12 x5 k : Nat} {x2 : Option Addr} {x2n x2c : Nat} {x3 x4 : Int} {q : Option Addr} {js : List Jb} {P : Nat} {p s : Int} (hp : p = (P : Int)) (hes : ∀ j ∈ js, j.es.length ≤ 1000) (hl : js.length ≤ 6) (hN : N ≤ x12 ∧ N ≤ x5 ∧ x5 ≠ x12) (hP : P ≤ 1000) (hk : k < 64) :
    ∀ (d i : Nat) (M : AMem) (W : List Int), i + d = js.length → Jobs N M q js → Rd M x5 [.int .i64 p, .int .i64 s] → Cells M x12 (ints .u64 W) → WInv (3 * P) W (wadds p s k 0 (js.take i)) →
    ∃ M' W', P22_27 LL q js.length 0 x2 x2n x2c x3 x4 x5 (k : Int) x12 P (i : Int) M = P22_63 LL q js.length 0 x2 x2n x2c x3 x4 x5 (k : Int) x12 P M' ∧ Cells M' x12 (ints .u64 W') ∧ WInv (3 * P) W' (wadds p s k 0 js) ∧ Same M M' [x12] := by
  intro d
  induction d with
  | zero =>
    intro i M W hi hj h5 h12 hW
    rw [P22_27_eq LL L_loop, ifDn (by rw [ofN]; omega)]
    rw [List.take_of_length_le (by omega)] at hW
    exact ⟨M, W, rfl, h12, hW, .refl _ _⟩
  | succ d ih =>
    intro i M W hi hj h5 h12 hW
    have hil : i < js.length := by omega
    obtain ⟨j, hji⟩ : ∃ j, js[i]? = some j := ⟨_, List.getElem?_eq_getElem hil⟩
    have hjm := List.mem_of_getElem? hji
    have hg : (0 : Int) ≤ (i : Int) ∧ (i : Int) < Int.ofNat js.length := by rw [ofN]; omega
    have hw : IntKind.wrap .i64 ((i : Int) + 1) = ((i + 1 : Nat) : Int) := by rw [w64 (by omega)]; rfl
    have ht : js.take (i + 1) = js.take i ++ [j] := by rw [List.take_add_one, hji]; rfl
    have htl : (js.take i).length = i := by rw [List.length_take]; omega
    have hws := wadds_snoc p s k (js.take i) 0 j
    rw [htl, Nat.zero_add] at hws
    have s1 := same_app M [AObj.cells [.int .i64 0, .slice none 0 0, .int .i64 0, .bool false, .int .u64 0, .int .i64 0] ⟨false, 0⟩]
    have g1 := cells_new M [.int .i64 0, .slice none 0 0, .int .i64 0, .bool false, .int .u64 0, .int .i64 0] 0
    have l1 : (M ++ [AObj.cells [.int .i64 0, .slice none 0 0, .int .i64 0, .bool false, .int .u64 0, .int .i64 0] ⟨false, 0⟩]).length = M.length + 1 := by simp
    rw [P22_27_eq LL L_loop, ifD hg.2]
    have hlt := h12.lt
    generalize M ++ [AObj.cells [.int .i64 0, .slice none 0 0, .int .i64 0, .bool false, .int .u64 0, .int .i64 0] ⟨false, 0⟩] = M1 at s1 g1 l1 ⊢
    obtain ⟨z, rfl, hz, l0, l1'⟩ := (hj.same s1 (by simp)).ld hji
    have h51 := h5.same s1 (by simp)
    have y0 : M1.ld x5 0 = some (.int .i64 p) := h51.ld 0
    have y1 : M1.ld x5 1 = some (.int .i64 s) := h51.ld 1
    have hn := rnew33 (p := p) (s := s) (st := j.st) (es := j.es) (qc := 0) ((hj.same s1 (by simp)).es j hjm).1
    simp only [↓if_pos hg, Nat.zero_add, Int.toNat_natCast, ↓bLI y0, ↓bLI y1, ↓bLI l0, ↓bLS l1']
    -- a job that is not taken
    have skip : ∀ M3 : AMem, Same M M3 [] → ¬ (okJ p s j = true ∧ k.testBit i = true) → ∃ M' W', P22_62 LL (some ⟨z, 0, none⟩) js.length 0 x2 x2n x2c x3 x4 x5 (k : Int) x12 P (i : Int) M3 = P22_63 LL (some ⟨z, 0, none⟩) js.length 0 x2 x2n x2c x3 x4 x5 (k : Int) x12 P M' ∧ Cells M' x12 (ints .u64 W') ∧ WInv (3 * P) W' (wadds p s k 0 js) ∧ Same M M' [x12] := fun M3 t3 hno => by
      rw [if_neg hno, List.append_nil] at hws
      obtain ⟨M', W', k1, k2, k3, k4⟩ := ih (i + 1) M3 W (by omega) (hj.same t3 (by simp)) (h5.same t3 (by simp)) (h12.same t3 (by simp)) (by rw [ht, hws]; exact hW)
      refine ⟨M', W', ?_, k2, k3, (t3.trans k4).mono (by simp)⟩
      rw [P22_62_eq, hw]
      exact k1
    by_cases hok : FlOk p s j.st j.es
    · have hokJ : okJ p s j = true := decide_eq_true hok
      obtain ⟨M2, ao, ac, e1, e2, e3, e4⟩ := hn.1 hok
      have hchk : chkOk [(15, 11)] [(15, M.length)] [(11, (M1, M2))] = true := by simp [chkOk, List.lookup, ver_same e3 g1.lt (by simp)]
      have g2 := g1.same e3 (by simp)
      obtain ⟨M3, v1, v2, v3, v4⟩ := g2.wr (o := 0) (vs := [.int .i64 (1 + 2 * s + 3 * p), .slice ao (flAdds s j.st j.es).length ac, .int .i64 ((flAdds s j.st j.es).length : Nat), .bool false, .int .u64 0, .int .i64 0]) (by simp)
      have t3 : Same M M3 [] := ((s1.trans e3).trans v3).mono' (fun b hb hl => by simp at hb; omega)
      rw [bX e1, bT2, bG0]
      rw [bA6, bI0, bS1, bI2, bB3, bI4, bI5, bG1, bB, bX v1, if_pos hchk, show (!true) = false from rfl, ifF, if_neg (by omega), bit64 hk (by omega), P22_41_eq]
      cases hb : k.testBit i with
      | false =>
        rw [show (!false) = true from rfl, ifT]
        exact skip M3 t3 (fun h => by rw [hb] at h; simp at h)
      | true =>
        rw [if_pos ⟨hokJ, hb⟩] at hws
        rw [show (!true) = false from rfl, ifF]
        obtain ⟨M4, W4, q1, q2, q3, q4⟩ := wh_in (x5 := x5) (x2 := x2) (x2n := x2n) (x2c := x2c) (x3 := x3) (x4 := x4) (x11 := (k : Int)) (A := wadds p s k 0 (js.take i)) hji (fun e he => by have := hok.2.2 e he; omega) (hes j hjm) hN.1 hP j.es.length 0 M3 W (by omega) (hj.same t3 (by simp)) (h12.same t3 (by simp)) (by simpa using hW)
        have t4 : Same M M4 [x12] := (t3.trans q4).mono (by simp)
        obtain ⟨M', W', k1, k2, k3, k4⟩ := ih (i + 1) M4 W4 (by omega) (hj.same t4 (fun b hb => by simp at hb; omega)) (h5.same t4 (by simpa using hN.2.2)) q2 (by rw [ht, hws]; exact q3)
        refine ⟨M', W', ?_, k2, k3, (t4.trans k4).mono (by simp)⟩
        rw [show (0 : Int) = ((0 : Nat) : Int) from rfl, q1, P22_62_eq, hw]
        exact k1
    · have hokJ : ¬ okJ p s j = true := by unfold okJ; simpa using hok
      obtain ⟨M2, e1, e3⟩ := hn.2 hok
      have hchk : chkOk [(15, 11)] [(15, M.length)] [(11, (M1, M2))] = true := by simp [chkOk, List.lookup, ver_same e3 g1.lt (by simp)]
      have g2 := g1.same e3 (by simp)
      obtain ⟨M3, v1, _, _, _, _, _, _, v3⟩ := zw g2 rfl
      have t3 : Same M M3 [] := ((s1.trans e3).trans v3).mono' (fun b hb hl => by simp at hb; omega)
      rw [bX e1, zTup, bT2, bG0]
      rw [bA6, bI0, bS1, bI2, bB3, bI4, bI5, bG1, bB, bX v1, if_pos hchk, show (!false) = true from rfl, ifT, P22_41_eq, ifT]
      exact skip M3 t3 (fun h => hokJ h.1)

theorem wh_loop {N x5 K : Nat} {fo : Option Addr} {fc must not : Nat} {q : Option Addr} {js : List Jb} {P : Nat} {p s : Int} {F : List Int} (hp : p = (P : Int)) (hes : ∀ j ∈ js, j.es.length ≤ 1000) (hl : js.length ≤ 6) (hP : P ≤ 1000) (hK : K < 64) (hm : must < 64) (hn : not < 64) (hKm : K &&& must = must) (hKn : K &&& not = 0)
    (hF : WInv (3 * P) F (wadds p s K 0 js)) :
    ∀ (d k : Nat) (M : AMem), k + d = K → N ≤ x5 → x5 < M.length → Jobs N M q js → Rd M x5 [.int .i64 p, .int .i64 s] → RdF M fo P F →
    ∃ M', P22_6 LL q js.length 0 fo P fc (must : Int) (not : Int) x5 (k : Int) M = some (.bool true, M') := by
  intro d
  induction d with
  | zero =>
    intro k M hk hN hx5 hj h5 hf
    obtain rfl : k = K := by omega
    have y0 : M.ld x5 0 = some (.int .i64 p) := h5.ld 0
    have c1 : (0 : Int) ≤ p ∧ p ≤ p ∧ p ≤ 140737488355328 ∧ p * 24 ≤ 140737488355328 := by omega
    have hpt : p.toNat = P := by omega
    have z3 : (List.replicate P [Value.int .u64 0, .int .u64 0, .int .u64 0]).flatten = ints .u64 (List.replicate (3 * P) 0) := by
      have : ∀ n : Nat, (List.replicate n [Value.int .u64 0, .int .u64 0, .int .u64 0]).flatten = ints .u64 (List.replicate (3 * n) 0) := fun n => by
        induction n with
        | zero => rfl
        | succ n ih =>
          rw [List.replicate_succ, List.flatten_cons, ih, show 3 * (n + 1) = 3 * n + 1 + 1 + 1 by omega, List.replicate_succ, List.replicate_succ, List.replicate_succ]
          rfl
      exact this P
    have s1 := same_app M [AObj.cells (ints .u64 (List.replicate (3 * P) 0)) ⟨false, 0⟩]
    have g1 := cells_new M (ints .u64 (List.replicate (3 * P) 0)) 0
    rw [P22_6_eq LL L_loop, ifD (by omega), and64 (by omega) (by omega), hKm, show (((must : Nat) : Int) != (must : Int)) = false by simp, ifF, and64 (by omega) (by omega), hKn, show (((0 : Nat) : Int) != 0) = false from rfl, ifF, bLI y0, if_pos c1, hpt, z3]
    obtain ⟨M1, W, e1, e2, e3, e4⟩ := wh_jobs (N := N) (x12 := M.length) (x5 := x5) (x2 := fo) (x2n := P) (x2c := fc) (x3 := (must : Int)) (x4 := (not : Int)) (q := q) (js := js) (p := p) (s := s) hp hes hl ⟨by omega, hN, by omega⟩ hP hK js.length 0 _ (List.replicate (3 * P) 0) (by omega) (hj.same s1 (by simp)) (h5.same s1 (by simp)) g1 (by simpa [wadds] using winv_zero (3 * P))
    have e1' := e1
    rw [show ((0 : Nat) : Int) = 0 from rfl] at e1'
    rw [e1']
    have hWF : W = F := winv_eq e3 hF (fun c _ => rfl)
    subst hWF
    have t1 : Same M M1 [M.length] := (s1.trans e4).mono (by simp)
    have hf1 : RdF M1 fo P W := ⟨hf.1, fun h0 => by
      obtain ⟨a, ea, ha⟩ := hf.2 h0
      exact ⟨a, ea, ha.same t1 (by have := ha.lt; simp; omega)⟩⟩
    have hsm := same34_spec (c := 3) (d := fc) (⟨hf.1, fun _ => ⟨_, rfl, e2.rd⟩⟩ : RdF M1 (some ⟨M.length, 0, none⟩) P W) hf1 (by omega)
    rw [decide_eq_true rfl] at hsm
    rw [P22_63_eq, bX hsm, bB, ifT]
    exact ⟨_, rfl⟩
  | succ d ih =>
    intro k M hk hN hx5 hj h5 hf
    have hw : IntKind.wrap .i64 ((k : Int) + 1) = ((k + 1 : Nat) : Int) := by rw [w64 (by omega)]; rfl
    have next : ∀ M1 : AMem, (∃ S, Same M M1 S ∧ ∀ b ∈ S, M.length ≤ b) → ∃ M', P22_70 LL q js.length 0 fo P fc (must : Int) (not : Int) x5 (k : Int) M1 = some (.bool true, M') := fun M1 ⟨S, t, hS⟩ => by
      rw [P22_70_eq, hw]
      have hle := t.le
      refine ih (k + 1) M1 (by omega) hN (by omega) (hj.same t (fun b hb => by have := hS b hb; omega)) (h5.same t (fun hb => by have := hS _ hb; omega)) ⟨hf.1, fun h0 => ?_⟩
      obtain ⟨a, ea, ha⟩ := hf.2 h0
      exact ⟨a, ea, ha.same t (fun hb => by have := hS _ hb; have := ha.lt; omega)⟩
    have here : ∃ S, Same M M S ∧ ∀ b ∈ S, M.length ≤ b := ⟨[], .refl _ _, by simp⟩
    have y0 : M.ld x5 0 = some (.int .i64 p) := h5.ld 0
    have c1 : (0 : Int) ≤ p ∧ p ≤ p ∧ p ≤ 140737488355328 ∧ p * 24 ≤ 140737488355328 := by omega
    have hpt : p.toNat = P := by omega
    have z3 : (List.replicate P [Value.int .u64 0, .int .u64 0, .int .u64 0]).flatten = ints .u64 (List.replicate (3 * P) 0) := by
      have : ∀ n : Nat, (List.replicate n [Value.int .u64 0, .int .u64 0, .int .u64 0]).flatten = ints .u64 (List.replicate (3 * n) 0) := fun n => by
        induction n with
        | zero => rfl
        | succ n ih =>
          rw [List.replicate_succ, List.flatten_cons, ih, show 3 * (n + 1) = 3 * n + 1 + 1 + 1 by omega, List.replicate_succ, List.replicate_succ, List.replicate_succ]
          rfl
      exact this P
    rw [P22_6_eq LL L_loop, ifD (by omega), and64 (by omega) (by omega)]
    by_cases h1 : k &&& must = must
    rotate_left
    · rw [show (((k &&& must : Nat) : Int) != (must : Int)) = true by simp; omega, ifT]
      exact next M here
    rw [h1, show (((must : Nat) : Int) != (must : Int)) = false by simp, ifF, and64 (by omega) (by omega)]
    by_cases h2 : k &&& not = 0
    rotate_left
    · rw [show (((k &&& not : Nat) : Int) != 0) = true by simp; omega, ifT]
      exact next M here
    rw [h2, show (((0 : Nat) : Int) != 0) = false from rfl, ifF, bLI y0, if_pos c1, hpt, z3]
    have s1 := same_app M [AObj.cells (ints .u64 (List.replicate (3 * P) 0)) ⟨false, 0⟩]
    have g1 := cells_new M (ints .u64 (List.replicate (3 * P) 0)) 0
    obtain ⟨M1, W, e1, e2, e3, e4⟩ := wh_jobs (N := N) (x12 := M.length) (x5 := x5) (x2 := fo) (x2n := P) (x2c := fc) (x3 := (must : Int)) (x4 := (not : Int)) (q := q) (js := js) (p := p) (s := s) hp hes hl ⟨by omega, hN, by omega⟩ hP (k := k) (by omega) js.length 0 _ (List.replicate (3 * P) 0) (by omega) (hj.same s1 (by simp)) (h5.same s1 (by simp)) g1 (by simpa [wadds] using winv_zero (3 * P))
    have e1' := e1
    rw [show ((0 : Nat) : Int) = 0 from rfl] at e1'
    rw [e1']
    have t1 : Same M M1 [M.length] := (s1.trans e4).mono (by simp)
    have hf1 : RdF M1 fo P F := ⟨hf.1, fun h0 => by
      obtain ⟨a, ea, ha⟩ := hf.2 h0
      exact ⟨a, ea, ha.same t1 (by have := ha.lt; simp; omega)⟩⟩
    have hsm := same34_spec (c := 3) (d := fc) (⟨e3.1, fun _ => ⟨_, rfl, e2.rd⟩⟩ : RdF M1 (some ⟨M.length, 0, none⟩) P W) hf1 (by omega)
    rw [P22_63_eq, bX hsm, bB]
    by_cases h3 : W = F
    · rw [decide_eq_true h3, ifT]
      exact ⟨_, rfl⟩
    · rw [decide_eq_false h3, ifF]
      exact next M1 ⟨[M.length], t1, by simp⟩

theorem whole_spec {N K : Nat} {M : AMem} {fo : Option Addr} {fc must not : Nat} {q : Option Addr} {js : List Jb} {P : Nat} {p s : Int} {F : List Int} (hp : p = (P : Int)) (hes : ∀ j ∈ js, j.es.length ≤ 1000) (hl : js.length ≤ 6) (hP : P ≤ 1000) (hK : K < 64) (hm : must < 64) (hn : not < 64) (hKm : K &&& must = must) (hKn : K &&& not = 0)
    (hF : WInv (3 * P) F (wadds p s K 0 js)) (hN : N ≤ M.length) (hj : Jobs N M q js) (hf : RdF M fo P F) :
    ∃ M', LL.call 22 [lay p s, .slice q js.length 0, .slice fo P fc, .int .i64 (must : Int), .int .i64 (not : Int)] M = some (.bool true, M') := by
  rw [L_call22, E22]
  have g1 := cells_new M [.int .i64 p, .int .i64 s] 0
  have s1 := same_app M [AObj.cells [.int .i64 p, .int .i64 s] ⟨false, 0⟩]
  obtain ⟨M', e⟩ := wh_loop (N := N) (x5 := M.length) (fc := fc) (s := s) hp hes hl hP hK hm hn hKm hKn hF K 0 _ (by omega) hN (by simp) (hj.same s1 (by simp)) g1.rd (hf.same s1 (by simp))
  exact ⟨M', e⟩

end Go.Proofs.Ytpnknolehckfhaa
