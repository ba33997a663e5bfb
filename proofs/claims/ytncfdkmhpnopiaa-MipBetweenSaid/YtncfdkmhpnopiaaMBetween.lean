/- MipBetween: the walk over the law. -/
import Derived.Test.YtncfdkmhpnopiaaMipC
import Derived.Test.YtncfdkmhpnopiaaMipO
import Derived.Test.YtncfdkmhpnopiaaMAwake
import Derived.Test.YtncfdkmhpnopiaaEqMBetween
set_option linter.unusedVariables false
set_option linter.unusedSimpArgs false
namespace Go.Proofs.Ytncfdkmhpnopiaa
open Go Go.Ax

theorem mb_low {W H at_ : Int} {x2 x5 c : Nat} {p : Option Addr} {cp : Nat} {l : List Px} (hl : l.length ≤ 65536) (hc : c < 3) {M : AMem} (a : IsPic M x2 W H p cp l) :
    ∀ (d i : Nat) (lo hi : Int), i + d = l.length → (∀ x ∈ l.take i, lo ≤ chn x c ∧ chn x c ≤ hi) →
      ∃ lo' hi', (∀ x ∈ l, lo' ≤ chn x c ∧ chn x c ≤ hi') ∧ P3_31 LL at_ x2 x5 (c : Int) lo hi (i : Int) M = P3_44 LL at_ x2 x5 (c : Int) lo' hi' M := by
  obtain ⟨_, _, a2⟩ := picV_ld a.hd
  intro d
  induction d with
  | zero =>
    intro i lo hi hi' hb
    obtain rfl : i = l.length := by omega
    rw [List.take_length] at hb
    refine ⟨lo, hi, hb, ?_⟩
    have : decide ((l.length : Int) < Int.ofNat l.length) = false := decide_eq_false (by rw [ofN]; omega)
    rw [P3_31_eq LL L_loop]
    simp only [↓bLS a2, this]
    rw [P3_35_eq, ifF]
  | succ d ih =>
    intro i lo hi hi' hb
    have hil : i < l.length := by omega
    obtain ⟨b, rfl, pb⟩ := a.px.2 (by omega)
    obtain ⟨x, hx⟩ : ∃ x, l[i]? = some x := ⟨_, List.getElem?_eq_getElem hil⟩
    have ex := px_ldc pb hx hc
    obtain ⟨lo', hi2, h1, h2⟩ := ih (i + 1) (if chn x c < lo then chn x c else lo) (if chn x c > hi then chn x c else hi) (by omega) (by
      intro y hy
      rw [take_snoc hx, List.mem_append, List.mem_singleton] at hy
      rcases hy with hy | rfl
      · have := hb y hy
        constructor <;> split <;> omega
      · constructor <;> split <;> omega)
    refine ⟨lo', hi2, h1, ?_⟩
    have hd : decide ((i : Int) < Int.ofNat l.length) = true := decide_eq_true (by rw [ofN]; omega)
    have i0 : (0 : Int) ≤ (i : Int) := by omega
    have i1 : (i : Int) < Int.ofNat l.length := by rw [ofN]; omega
    have c0 : (0 : Int) ≤ (c : Int) := by omega
    have c1 : (c : Int) < 3 := by omega
    have hwi : IntKind.wrap .i64 ((i : Int) + 1) = ((i + 1 : Nat) : Int) := by rw [w64 (by omega)]; rfl
    rw [P3_31_eq LL L_loop]
    simp only [↓bLS a2, hd]
    rw [P3_35_eq, ifT]
    simp only [↓bLS a2, i0, i1, c0, c1, and_self, if_true, Int.toNat_natCast, Nat.mul_one, Nat.zero_add, ex, intOf_int, Option.bind_some, P3_43_eq, hwi]
    exact h2

theorem mb_in {W H at_ : Int} {x2 x5 c : Nat} {p : Option Addr} {cp : Nat} {l : List Px} (hl : l.length ≤ 65536) (hc : c < 3) {M : AMem} (a : IsPic M x5 W H p cp l) {lo hi : Int} (hb : ∀ x ∈ l, lo ≤ chn x c ∧ chn x c ≤ hi) :
    ∀ (d i : Nat), i + d = l.length → P3_47 LL at_ x2 x5 (c : Int) lo hi (i : Int) M = P3_64 LL at_ x2 x5 (c : Int) M := by
  obtain ⟨_, _, a2⟩ := picV_ld a.hd
  intro d
  induction d with
  | zero =>
    intro i hi'
    obtain rfl : i = l.length := by omega
    rw [P3_47_eq LL L_loop]
    simp only [↓bLS a2, ↓ifDn (show ¬ ((l.length : Int) < Int.ofNat l.length) by rw [ofN]; omega)]
  | succ d ih =>
    intro i hi'
    have hil : i < l.length := by omega
    obtain ⟨b, rfl, pb⟩ := a.px.2 (by omega)
    obtain ⟨x, hx⟩ : ∃ x, l[i]? = some x := ⟨_, List.getElem?_eq_getElem hil⟩
    have ex := px_ldc pb hx hc
    have hbx := hb x (List.mem_of_getElem? hx)
    have i0 : (0 : Int) ≤ (i : Int) := by omega
    have i1 : (i : Int) < Int.ofNat l.length := by rw [ofN]; omega
    have c0 : (0 : Int) ≤ (c : Int) := by omega
    have c1 : (c : Int) < 3 := by omega
    have n1 : ¬ chn x c < lo := by omega
    have n2 : ¬ chn x c > hi := by omega
    have hwi : IntKind.wrap .i64 ((i : Int) + 1) = ((i + 1 : Nat) : Int) := by rw [w64 (by omega)]; rfl
    rw [P3_47_eq LL L_loop]
    simp only [↓bLS a2, ↓ifD i1, i0, i1, c0, c1, and_self, if_true, Int.toNat_natCast, Nat.mul_one, Nat.zero_add, ex, intOf_int, Option.bind_some, n1, n2, decide_false, Bool.false_eq_true, if_false, P3_63_eq, hwi]
    exact ih (i + 1) (by omega)

theorem half_between {W H c : Nat} {l : List Px} (hW : 1 ≤ W) (hH : 1 ≤ H) (hl : l.length = W * H) {lo hi : Int} (hb : ∀ x ∈ l, lo ≤ chn x c ∧ chn x c ≤ hi) : ∀ z ∈ halfL W H l, lo ≤ chn z c ∧ chn z c ≤ hi := by
  intro z hz
  have hat : ∀ x y, lo ≤ chn (atP W H l x y) c ∧ chn (atP W H l x y) c ≤ hi := fun x y => by
    refine hb _ (List.mem_of_getElem? (gP_get (l := l) ?_))
    have h1 : min y (H - 1) + 1 ≤ H := by omega
    have h2 : min x (W - 1) < W := by omega
    have := Nat.mul_le_mul_right W h1
    rw [hl, Nat.mul_comm W H]; rw [Nat.add_mul] at this; omega
  obtain ⟨x, y, rfl⟩ := tab_mem hz
  unfold halfP
  have a := hat (2 * x) (2 * y)
  have b := hat (2 * x + 1) (2 * y)
  have d := hat (2 * x) (2 * y + 1)
  have e := hat (2 * x + 1) (2 * y + 1)
  generalize atP W H l (2 * x) (2 * y) = A at a ⊢
  generalize atP W H l (2 * x + 1) (2 * y) = B at b ⊢
  generalize atP W H l (2 * x) (2 * y + 1) = D at d ⊢
  generalize atP W H l (2 * x + 1) (2 * y + 1) = E at e ⊢
  unfold chn at *
  unfold mk4
  split at a <;> simp only at * <;> omega

theorem mb_chan {W H : Nat} (bW : 1 ≤ W ∧ W ≤ 256) (bH : 1 ≤ H ∧ H ≤ 256) {at_ : Int} {x2 x5 : Nat} {p q : Option Addr} {cp cq : Nat} {l : List Px} (hl : l.length = W * H) {M : AMem} (a : IsPic M x2 (W : Int) (H : Int) p cp l) (b : IsPic M x5 (hf W : Int) (hf H : Int) q cq (halfL W H l)) :
    ∀ (d c : Nat), c + d = 3 → P3_16 LL at_ x2 x5 (c : Int) M = P3_65 LL at_ x2 M := by
  have hl2 : l.length ≤ 65536 := by rw [hl]; exact Nat.mul_le_mul bW.2 bH.2
  have hl3 : (halfL W H l).length ≤ 65536 := by
    simp only [halfL, tab_length]
    exact Nat.mul_le_mul (by unfold hf; omega : hf W ≤ 256) (by unfold hf; omega : hf H ≤ 256)
  intro d
  induction d with
  | zero =>
    intro c hc
    obtain rfl : c = 3 := by omega
    rw [P3_16_eq LL L_loop, ifDn (by omega)]
  | succ d ih =>
    intro c hc
    have hc3 : c < 3 := by omega
    obtain ⟨lo, hi, h1, h2⟩ := mb_low (at_ := at_) (x5 := x5) hl2 hc3 a l.length 0 255 0 (by omega) (by simp)
    have h3 := mb_in (at_ := at_) (x2 := x2) hl3 hc3 b (half_between (c := c) bW.1 bH.1 hl h1) (halfL W H l).length 0 (by omega)
    have hwi : IntKind.wrap .i64 ((c : Int) + 1) = ((c + 1 : Nat) : Int) := by rw [w64 (by omega)]; rfl
    rw [show ((0 : Nat) : Int) = 0 from rfl] at h2 h3
    rw [P3_16_eq LL L_loop, ifD (by omega), h2, P3_44_eq, h3, P3_64_eq, hwi]
    exact ih (c + 1) (by omega)

theorem mb_cmp {W H k : Nat} (bW : 1 ≤ W ∧ W ≤ 256) (bH : 1 ≤ H ∧ H ≤ 256) (hk : k < W) {x2 x12 x14 : Nat} {p q r : Option Addr} {cp cq cr : Nat} {l Y : List Px} {Wy Hy : Int} (hl : l.length = W * H) (hY : 0 < k → Y = cutL W 0 0 k H l) {M : AMem} (a : IsPic M x2 (W : Int) (H : Int) p cp l)
    (b : IsPic M x12 ((W - k : Nat) : Int) (H : Int) q cq (cutL W k 0 (W - k) H l)) (c : IsPic M x14 Wy Hy r cr Y) :
    ∀ (d i : Nat), i + d = l.length → P3_83 LL x2 (k : Int) x12 x14 (i : Int) M = P3_102 LL M := by
  have hl2 : l.length ≤ 65536 := by rw [hl]; exact Nat.mul_le_mul bW.2 bH.2
  obtain ⟨a0, _, a2⟩ := picV_ld a.hd
  obtain ⟨_, _, b2⟩ := picV_ld b.hd
  obtain ⟨_, _, c2⟩ := picV_ld c.hd
  intro d
  induction d with
  | zero =>
    intro i hi
    obtain rfl : i = l.length := by omega
    rw [P3_83_eq LL L_loop]
    simp only [↓bLS a2, ↓ifDn (show ¬ ((l.length : Int) < Int.ofNat l.length) by rw [ofN]; omega)]
  | succ d ih =>
    intro i hi
    have hil : i < l.length := by omega
    obtain ⟨pa, rfl, ra⟩ := a.px.2 (by omega)
    obtain ⟨x, hx⟩ : ∃ x, l[i]? = some x := ⟨_, List.getElem?_eq_getElem hil⟩
    obtain ⟨e0, e1, e2⟩ := px_ld ra hx
    have C0 : i % W < W := Nat.mod_lt _ (by omega)
    have R0 : i / W < H := (Nat.div_lt_iff_lt_mul (by omega)).2 (by rw [Nat.mul_comm, ← hl]; exact hil)
    have hdm : i / W * W + i % W = i := by rw [Nat.mul_comm]; exact Nat.div_add_mod i W
    have m1 : Int.tmod (i : Int) ((W : Nat) : Int) = ((i % W : Nat) : Int) := (Int.ofNat_tmod _ _).symm
    have m2 : IntKind.wrap .i64 (Int.tdiv (i : Int) ((W : Nat) : Int)) = ((i / W : Nat) : Int) := by
      rw [show Int.tdiv (i : Int) ((W : Nat) : Int) = ((i / W : Nat) : Int) from (Int.ofNat_tdiv _ _).symm]
      have hb : i / W ≤ 256 := Nat.le_of_lt (Nat.lt_of_lt_of_le R0 bH.2)
      generalize i / W = z at hb ⊢
      exact w64 (by omega)
    have hgx : gP l i = x := by
      have := gP_get hil
      rw [hx] at this
      exact (Option.some.inj this).symm
    generalize hC : i % W = C at *
    generalize hR : i / W = R at *
    have i1 : (i : Int) < Int.ofNat l.length := by rw [ofN]; omega
    have i0 : (0 : Int) ≤ (i : Int) := by omega
    have hW0 : ¬ ((W : Int) = 0) := by omega
    have hwi : IntKind.wrap .i64 ((i : Int) + 1) = ((i + 1 : Nat) : Int) := by rw [w64 (by omega)]; rfl
    rw [P3_83_eq LL L_loop]
    simp only [↓bLS a2, ↓ifD i1, ↓bLI a0, ↓if_neg hW0, m1, m2]
    by_cases hck : k ≤ C
    · have g1 : (C : Int) ≥ (k : Int) := by omega
      have g2 : ¬ (C : Int) < (k : Int) := by omega
      have hj : R * (W - k) + (C - k) < (cutL W k 0 (W - k) H l).length := by
        rw [cutL_length]
        have := Nat.mul_le_mul_right (W - k) (show R + 1 ≤ H by omega)
        rw [Nat.mul_comm (W - k) H]; rw [Nat.add_mul] at this; omega
      have hp : (cutL W k 0 (W - k) H l)[R * (W - k) + (C - k)]? = some x := by
        rw [gP_get hj]
        unfold cutL
        rw [tab_gP (by omega) R0, show (0 + R) * W + (k + (C - k)) = i by rw [Nat.zero_add]; omega, hgx]
      obtain ⟨pb, rfl, rb⟩ := b.px.2 (by omega)
      obtain ⟨f0, f1, f2⟩ := px_ld rb hp
      have hj2 : (cutL W k 0 (W - k) H l).length ≤ 65536 := by rw [cutL_length]; exact (Nat.mul_le_mul (show W - k ≤ 256 by omega) bH.2 : (W - k) * H ≤ 256 * 256)
      have u1 : IntKind.wrap .i64 ((W : Int) - (k : Int)) = ((W - k : Nat) : Int) := by rw [w64 (by omega)]; omega
      have u2 : IntKind.wrap .i64 ((R : Int) * ((W - k : Nat) : Int)) = ((R * (W - k) : Nat) : Int) := by
        rw [← Int.natCast_mul]
        generalize R * (W - k) = z at hj
        exact w64 (by omega)
      have u3 : IntKind.wrap .i64 (((R * (W - k) : Nat) : Int) + (C : Int)) = ((R * (W - k) + C : Nat) : Int) := by
        generalize R * (W - k) = z at hj
        rw [w64 (by omega)]; rfl
      have u4 : IntKind.wrap .i64 (((R * (W - k) + C : Nat) : Int) - (k : Int)) = ((R * (W - k) + (C - k) : Nat) : Int) := by
        generalize R * (W - k) = z at hj
        rw [w64 (by omega)]; omega
      have j1 : ((R * (W - k) + (C - k) : Nat) : Int) < Int.ofNat (cutL W k 0 (W - k) H l).length := by rw [ofN]; omega
      have j0 : (0 : Int) ≤ ((R * (W - k) + (C - k) : Nat) : Int) := Int.natCast_nonneg _
      simp only [↓ifD g1, ↓bLS b2, ↓bLI a0, u1, u2, u3, u4, j0, j1, i0, i1, and_self, if_true, Int.toNat_natCast, Nat.zero_add, f0, f1, f2, e0, e1, e2, intOf_int, Option.bind_some, ↓bLS a2, beq_self_eq_true, Bool.and_self, ↓ifNT, ↓ifDn g2]
      rw [P3_96_eq, ifF, P3_101_eq, hwi]
      exact ih (i + 1) (by omega)
    · have g1 : ¬ (C : Int) ≥ (k : Int) := by omega
      have g2 : (C : Int) < (k : Int) := by omega
      have hYe := hY (by omega)
      have hj : R * k + C < Y.length := by
        rw [hYe, cutL_length]
        have := Nat.mul_le_mul_right k (show R + 1 ≤ H by omega)
        rw [Nat.mul_comm k H]; rw [Nat.add_mul] at this; omega
      have hp : Y[R * k + C]? = some x := by
        rw [gP_get hj, hYe]
        unfold cutL
        rw [tab_gP (by omega) R0, show (0 + R) * W + (0 + C) = i by rw [Nat.zero_add, Nat.zero_add]; omega, hgx]
      obtain ⟨pc, rfl, rc⟩ := c.px.2 (by omega)
      obtain ⟨f0, f1, f2⟩ := px_ld rc hp
      have hj2 : Y.length ≤ 65536 := by rw [hYe, cutL_length]; exact (Nat.mul_le_mul (show k ≤ 256 by omega) bH.2 : k * H ≤ 256 * 256)
      have u2 : IntKind.wrap .i64 ((R : Int) * (k : Int)) = ((R * k : Nat) : Int) := by
        rw [← Int.natCast_mul]
        generalize R * k = z at hj
        exact w64 (by omega)
      have u3 : IntKind.wrap .i64 (((R * k : Nat) : Int) + (C : Int)) = ((R * k + C : Nat) : Int) := by
        generalize R * k = z at hj
        rw [w64 (by omega)]; rfl
      have j1 : ((R * k + C : Nat) : Int) < Int.ofNat Y.length := by rw [ofN]; omega
      have j0 : (0 : Int) ≤ ((R * k + C : Nat) : Int) := Int.natCast_nonneg _
      simp only [↓ifDn g1, ↓ifD g2, ↓bLS c2, u2, u3, j0, j1, i0, i1, and_self, if_true, Int.toNat_natCast, Nat.zero_add, f0, f1, f2, e0, e1, e2, intOf_int, Option.bind_some, ↓bLS a2, beq_self_eq_true, Bool.and_self, Bool.not_true]
      rw [P3_96_eq, ifF, P3_101_eq, hwi]
      exact ih (i + 1) (by omega)

theorem mb_cut {W H : Nat} (bW : 1 ≤ W ∧ W ≤ 256) (bH : 1 ≤ H ∧ H ≤ 256) {at_ : Int} (hat : 0 ≤ at_ ∧ at_ ≤ 255) {x2 : Nat} {p : Option Addr} {cp : Nat} {l : List Px} (hl : l.length = W * H) (hfit : ∀ x ∈ l, x.fit) {M : AMem} (a : IsPic M x2 (W : Int) (H : Int) p cp l) :
    ∃ M', P3_65 LL at_ x2 M = some (.bool true, M') := by
  have hl2 : l.length ≤ 65536 := by rw [hl]; exact Nat.mul_le_mul bW.2 bH.2
  have hpf : PFit (W : Int) (H : Int) l := ⟨hfit, by omega, by omega, by rw [hl, Int.natCast_mul]⟩
  obtain ⟨_, aw⟩ := awake51
  obtain ⟨n, rfl⟩ : ∃ n : Nat, at_ = (n : Int) := ⟨at_.toNat, by omega⟩
  have hk : Int.tmod (IntKind.wrap .i64 (n : Int)) (W : Int) = ((n % W : Nat) : Int) := by
    rw [w64 (by omega)]; exact (Int.ofNat_tmod _ _).symm
  have hkW : n % W < W := Nat.mod_lt _ (by omega)
  generalize n % W = k at hk hkW
  obtain ⟨a0, a1, _⟩ := picV_ld a.hd
  -- the one part
  have g1 := cells_new M [.int .i64 0, .int .i64 0, .slice none 0 0] 0
  have s1 := same_app M [AObj.cells [.int .i64 0, .int .i64 0, .slice none 0 0] ⟨false, 0⟩]
  have n1 : (M ++ [AObj.cells [.int .i64 0, .int .i64 0, .slice none 0 0] ⟨false, 0⟩]).length = M.length + 1 := by simp
  generalize hM1 : M ++ [AObj.cells [.int .i64 0, .int .i64 0, .slice none 0 0] ⟨false, 0⟩] = M1 at g1 s1 n1
  obtain ⟨b0, b1, b2⟩ := picV_ld (a.st s1).hd
  obtain ⟨M2, e2, s2⟩ := of51_spec (W : Int) (H : Int) p l.length cp M1
  unfold picV at e2
  have t2 : Same M M2 [] := (s1.trans s2).mono (by simp)
  obtain ⟨c0, c1, c2⟩ := picV_ld (a.st t2).hd
  have u1 : IntKind.wrap .i64 ((W : Int) - (k : Int)) = ((W - k : Nat) : Int) := by rw [w64 (by omega)]; omega
  obtain ⟨M3, o, oc, e3, o3, s3, ho3⟩ := (cut_spec (W := (W : Int)) (H := (H : Int)) (x := (k : Int)) (y := 0) (w := ((W - k : Nat) : Int)) (h := (H : Int)) (cp := cp) (by omega) (a.st t2).px).1 ⟨hpf, by omega, by omega, by omega, by omega, by omega, by omega⟩
  unfold picV at e3
  simp only [Int.toNat_natCast] at e3 o3
  rw [show Int.toNat 0 = 0 from rfl] at o3
  have g3 := (g1.same s2 (by simp)).same s3 (by simp)
  obtain ⟨M4, w1, w2, w3, w4⟩ := g3.wr (o := 0) (vs := [.int .i64 ((W - k : Nat) : Int), .int .i64 (H : Int), .slice o ((W - k) * H) oc]) (by simp)
  have w2' : Cells M4 M.length [.int .i64 ((W - k : Nat) : Int), .int .i64 (H : Int), .slice o ((W - k) * H) oc] := by simpa [wrL] using w2
  have t4 : Same M M4 [] := ((t2.trans s3).trans w3).mono' (by simp <;> omega)
  have l2 := s2.le
  have X : IsPic M4 M.length ((W - k : Nat) : Int) (H : Int) o oc (cutL W k 0 (W - k) H l) := by
    refine ⟨by rw [cutL_length]; exact w2'.rd, by rw [cutL_length]; exact o3.same w3 (fun z hz => by have := ho3 z hz; simp; omega)⟩
  have q1 : chkOk [(4, 1), (8, 1), (13, 1), (13, 9)] [(13, M.length), (8, x2), (4, x2)] [(9, (M2, M3)), (1, (M1, M2))] = true := by
    have v1 := ver_same s2 (show x2 < M1.length by have := a.lt; omega) (by simp)
    have v2 := ver_same s2 (show M.length < M1.length by omega) (by simp)
    have v3 := ver_same s3 (show M.length < M2.length by omega) (by simp)
    simp [chkOk, List.lookup, v1, v2, v3]
  -- the other part
  have g5 := cells_new M4 [.int .i64 0, .int .i64 0, .slice none 0 0] 0
  have s5 := same_app M4 [AObj.cells [.int .i64 0, .int .i64 0, .slice none 0 0] ⟨false, 0⟩]
  have n5 : (M4 ++ [AObj.cells [.int .i64 0, .int .i64 0, .slice none 0 0] ⟨false, 0⟩]).length = M4.length + 1 := by simp
  generalize hM5 : M4 ++ [AObj.cells [.int .i64 0, .int .i64 0, .slice none 0 0] ⟨false, 0⟩] = M5 at g5 s5 n5
  have t5 : Same M M5 [] := (t4.trans s5).mono (by simp)
  obtain ⟨d0, d1, d2⟩ := picV_ld (a.st t5).hd
  obtain ⟨M6, e6, s6⟩ := of51_spec (W : Int) (H : Int) p l.length cp M5
  unfold picV at e6
  have t6 : Same M M6 [] := (t5.trans s6).mono (by simp)
  obtain ⟨_, f1, _⟩ := picV_ld (a.st t6).hd
  have hcut := cut_spec (W := (W : Int)) (H := (H : Int)) (x := 0) (y := 0) (w := (k : Int)) (h := (H : Int)) (cp := cp) (by omega) (a.st t6).px
  have hy : ∃ M7 Wy Hy r rc Y, LL.call 10 [picV (W : Int) (H : Int) p l.length cp, .int .i64 0, .int .i64 0, .int .i64 (k : Int), .int .i64 (H : Int)] M6 = some (.tuple #[picV Wy Hy r (List.length Y) rc, .bool (decide ((k : Int) > 0))], M7) ∧ RdL M7 encP r Y.length Y ∧ Same M6 M7 [] ∧ (∀ z ∈ blk r, M6.length ≤ z) ∧ Y.length = k * H ∧ (0 < k → Y = cutL W 0 0 k H l) := by
    by_cases hk0 : 0 < k
    · obtain ⟨M7, r, rc, e7, o7, s7, h7⟩ := hcut.1 ⟨hpf, by omega, by omega, by omega, by omega, by omega, by omega⟩
      simp only [Int.toNat_natCast] at e7 o7
      rw [show Int.toNat 0 = 0 from rfl] at o7
      refine ⟨M7, (k : Int), (H : Int), r, rc, cutL W 0 0 k H l, ?_, ?_, s7, h7, cutL_length _ _ _ _ _ _, fun _ => rfl⟩
      · rw [cutL_length, decide_eq_true (show (k : Int) > 0 by omega)]; exact e7
      · rw [cutL_length]; exact o7
    · obtain rfl : k = 0 := by omega
      obtain ⟨M7, e7, s7⟩ := hcut.2 (fun h => by have := h.2.2.1.1; omega)
      exact ⟨M7, 0, 0, none, 0, [], e7, ⟨rfl, fun h => by simp at h⟩, s7, by simp, by simp, fun h => by omega⟩
  obtain ⟨M7, Wy, Hy, r, rc, Y, e7, o7, s7, h7, hYl, hY⟩ := hy
  unfold picV at e7
  have g7 := (g5.same s6 (by simp)).same s7 (by simp)
  obtain ⟨M8, y1, y2, y3, y4⟩ := g7.wr (o := 0) (vs := [.int .i64 Wy, .int .i64 Hy, .slice r Y.length rc]) (by simp)
  have y2' : Cells M8 M4.length [.int .i64 Wy, .int .i64 Hy, .slice r Y.length rc] := by simpa [wrL] using y2
  have l6 := s6.le
  have t8 : Same M4 M8 [] := (((s5.trans s6).trans s7).trans y3).mono' (by simp <;> omega)
  have Z : IsPic M8 M4.length Wy Hy r rc Y := ⟨y2'.rd, o7.same y3 (fun z hz => by have := h7 z hz; simp; omega)⟩
  have q2 : chkOk [(4, 1), (9, 1), (9, 5)] [(9, M4.length), (4, x2)] [(5, (M6, M7)), (1, (M5, M6))] = true := by
    have v1 := ver_same s6 (show x2 < M5.length by have := (a.st t4).lt; omega) (by simp)
    have v2 := ver_same s6 (show M4.length < M5.length by omega) (by simp)
    have v3 := ver_same s7 (show M4.length < M6.length by omega) (by simp)
    simp [chkOk, List.lookup, v1, v2, v3]
  have tt : Same M M8 [] := (t4.trans t8).mono (by simp)
  obtain ⟨h0, h1, h2⟩ := picV_ld (a.st tt).hd
  obtain ⟨_, _, X2⟩ := picV_ld (X.st t8).hd
  obtain ⟨_, _, Z2⟩ := picV_ld Z.hd
  have hcmp := mb_cmp bW bH hkW hl hY (a.st tt) (X.st t8) Z l.length 0 (by omega)
  refine ⟨M8, ?_⟩
  have hW0 : ¬ ((W : Int) = 0) := by omega
  rw [P3_65_eq]
  simp only [↓bLI a0, ↓if_neg hW0, hk]
  rw [hM1]
  simp only [↓bLI b0, ↓bLI b1, ↓bLS b2, ↓bX e2, ↓bA3, ↓bI0, ↓bI1, ↓bS2, ↓bLI c0, ↓bLI c1, u1, ↓bX e3, ↓bT2, ↓bG0, ↓bG1, ↓bB, ↓bX w1, ↓if_pos q1]
  rw [hM5]
  simp only [↓bLI d0, ↓bLI d1, ↓bLS d2, ↓bX e6, ↓bA3, ↓bI0, ↓bI1, ↓bS2, ↓bLI f1, ↓bX e7, ↓bT2, ↓bG0, ↓bG1, ↓bB, ↓bX y1, ↓if_pos q2]
  rw [P3_71_eq]
  have v1 : IntKind.wrap .i64 (((W - k : Nat) : Int) * (H : Int)) = (((W - k) * H : Nat) : Int) := by
    rw [← Int.natCast_mul]
    have := Nat.mul_le_mul (show W - k ≤ 256 by omega) bH.2
    exact w64 (by omega)
  have v2 : IntKind.wrap .i64 ((k : Int) * (H : Int)) = ((k * H : Nat) : Int) := by
    rw [← Int.natCast_mul]
    have := Nat.mul_le_mul (show k ≤ 256 by omega) bH.2
    exact w64 (by omega)
  have z1 : (Int.ofNat (cutL W k 0 (W - k) H l).length != (((W - k) * H : Nat) : Int)) = false := by rw [cutL_length, ofN]; simp
  have z2 : (Int.ofNat Y.length != ((k * H : Nat) : Int)) = false := by rw [hYl, ofN]; simp
  have bb : (!(decide ((k : Int) > 0) == decide ((k : Int) > 0))) = false := by simp
  simp only [↓ifNT, bb, ↓ifF, ↓bLS X2, ↓bLI h0, ↓bLI h1, u1, v1, z1, ↓bLS Z2, v2, z2]
  rw [P3_74_eq, ifF]
  rw [show ((0 : Nat) : Int) = 0 from rfl] at hcmp
  rw [hcmp, P3_102_eq]
  simp only [↓bX aw, ↓bB]

theorem mbetween (M : AMem) (W H at_ : Int) (p : Option Addr) (cp : Nat) (l : List Px) (hat : 0 ≤ at_ ∧ at_ ≤ 255) (hl : l.length ≤ 9223372036854775807) (hp : RdL M encP p l.length l) :
    ∃ M', LL.call 3 [picV W H p l.length cp, .int .u8 at_] M = some (.bool true, M') := by
  rw [L_call3]
  unfold picV
  rw [E3]
  obtain ⟨_, aw⟩ := awake51
  have g0 := cells_new M [.int .i64 W, .int .i64 H, .slice p l.length cp] 0
  have s0 := same_app M [AObj.cells [.int .i64 W, .int .i64 H, .slice p l.length cp] ⟨false, 0⟩]
  generalize hM0 : M ++ [AObj.cells [.int .i64 W, .int .i64 H, .slice p l.length cp] ⟨false, 0⟩] = M0 at g0 s0
  have a : IsPic M0 M.length W H p cp l := ⟨g0.rd, hp.same s0 (by simp)⟩
  obtain ⟨a0, a1, a2⟩ := picV_ld a.hd
  obtain ⟨M1, e1, s1⟩ := right41_spec (W := W) (H := H) (c := cp) hl a.px
  unfold picV at e1
  simp only [↓bLI a0, ↓bLI a1, ↓bLS a2, ↓bX e1, ↓bB]
  by_cases hf : PFit W H l
  · have hft : decide (PFit W H l) = true := decide_eq_true hf
    simp only [hft, ↓ifNT]
    have a' := a.st s1
    obtain ⟨b0, b1, b2⟩ := picV_ld a'.hd
    by_cases h40 : Int.ofNat l.length > 40
    · exact ⟨M1, by simp only [↓bLS b2, ↓ifD h40, ↓bX aw, ↓bB]⟩
    simp only [↓bLS b2, ↓ifDn h40, ↓bLI b0, ↓bLI b1]
    obtain ⟨M2, e2, s2⟩ := of51_spec W H p l.length cp M1
    unfold picV at e2
    have hhalf := half_spec (W := W) (H := H) (cp := cp) hl (a'.st s2).px
    obtain ⟨M3, z, e3, z3, s3, hz⟩ := hhalf.1 hf
    unfold picV at e3
    obtain ⟨f1, f2, f3, f4⟩ := hf
    obtain ⟨W', rfl⟩ : ∃ n : Nat, W = (n : Int) := ⟨W.toNat, by omega⟩
    obtain ⟨H', rfl⟩ : ∃ n : Nat, H = (n : Int) := ⟨H.toNat, by omega⟩
    simp only [Int.toNat_natCast] at e3 z3
    have hlen : l.length = W' * H' := by rw [← Int.natCast_mul] at f4; omega
    obtain ⟨M4, w1, w2, w3, w4⟩ := wr_new M3 [.int .i64 0, .int .i64 0, .slice none 0 0] [.int .i64 (hf W' : Int), .int .i64 (hf H' : Int), .slice (some ⟨z, 0, none⟩) (hf W' * hf H') 3] 0 rfl
    have hhl : (halfL W' H' l).length = hf W' * hf H' := by simp [halfL]
    have t4 : Same M1 M4 [] := ((s2.trans s3).trans w3).mono (by simp)
    have b : IsPic M4 M3.length (hf W' : Int) (hf H' : Int) (some ⟨z, 0, none⟩) 3 (halfL W' H' l) := ⟨by rw [hhl]; exact w2.rd, by rw [hhl]; exact ⟨hhl, fun _ => ⟨z, rfl, (z3.same w3 (by simp)).rd⟩⟩⟩
    obtain ⟨M', hM'⟩ := mb_cut (by omega) (by omega) hat hlen f1 (a'.st t4)
    have hch := mb_chan (at_ := at_) (by omega) (by omega) hlen (a'.st t4) b 3 0 (by omega)
    refine ⟨M', ?_⟩
    simp only [↓bX e2, ↓bA3, ↓bI0, ↓bI1, ↓bS2, ↓bX e3, ↓bX w1]
    rw [show ((0 : Nat) : Int) = 0 from rfl] at hch
    rw [hch]
    exact hM'
  · have hft : decide (PFit W H l) = false := decide_eq_false hf
    exact ⟨M1, by simp only [hft, ↓ifNF, ↓bX aw, ↓bB]⟩

end Go.Proofs.Ytncfdkmhpnopiaa
