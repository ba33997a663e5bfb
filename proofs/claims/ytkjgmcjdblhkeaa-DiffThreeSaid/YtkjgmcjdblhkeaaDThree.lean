/- DiffThree: the walk over the law. -/
import Derived.Test.YtkjgmcjdblhkeaaDiffC
import Derived.Test.YtkjgmcjdblhkeaaEqDThree
import Derived.Test.YtkjgmcjdblhkeaaClosed
import Derived.Test.YtkjgmcjdblhkeaaAxD
set_option linter.unusedVariables false
set_option linter.unusedSimpArgs false
namespace Go.Proofs.Ytkjgmcjdblhkeaa
open Go Go.Ax

theorem awake49 : ∃ M, LL.call 5 [] [] = some (.bool true, M) := closed 40 (by kernel_rfl)

theorem smC_ld {M : AMem} {b : Nat} {s : Sm} (h : Rd M b (smC s)) : M.ld b 0 = some (.int .i64 s.n) ∧ M.ld b 1 = some (.int .i64 s.m) ∧ M.ld b 2 = some (.int .i64 s.a) ∧ M.ld b 3 = some (.int .i64 s.q) := ⟨h.ld 0, h.ld 1, h.ld 2, h.ld 3⟩

theorem fit2_of {W H : Int} {la lb : List Px} (ha : PFit W H la) (hb : PFit W H lb) : Fit2 W H W H la lb := ⟨⟨rfl, rfl⟩, ha, hb⟩

/-- Pictures that may be, of one size. -/
theorem of_fit {W H : Int} {p q : Option Addr} {c d : Nat} {la lb : List Px} (ha : PFit W H la) (hb : PFit W H lb) {M : AMem} (hp : RdL M encP p la.length la) (hq : RdL M encP q lb.length lb) :
    ∃ M', LL.call 6 [picV W H p la.length c, picV W H q lb.length d] M = some (.tuple #[.agg #[.int .i64 (smL la lb).n, .int .i64 (smL la lb).m, .int .i64 (smL la lb).a, .int .i64 (smL la lb).q], .bool true], M') ∧ Same M M' [] := by
  have h1 := ha.len
  have h2 := hb.len
  have := of_spec (Wa := W) (Ha := H) (Wb := W) (Hb := H) (c := c) (d := d) (by omega) (by omega) hp hq
  simpa [fit2_of ha hb, smR] using this

theorem mix_fit {W H pt : Int} {p q : Option Addr} {c d : Nat} {la lb : List Px} (ha : PFit W H la) (hb : PFit W H lb) (hpt : 0 ≤ pt ∧ pt ≤ 1000) {M : AMem} (hp : RdL M encP p la.length la) (hq : RdL M encP q lb.length lb) :
    ∃ M' a, LL.call 13 [picV W H p la.length c, picV W H q lb.length d, .int .i64 pt] M = some (.tuple #[picV W H (some ⟨a, 0, none⟩) la.length 3, .bool true], M') ∧ Cells M' a ((mixL pt la lb).flatMap encP) ∧ Same M M' [] ∧ M.length ≤ a := by
  have h1 := ha.len
  have h2 := hb.len
  exact (mix_spec (Wa := W) (Ha := H) (Wb := W) (Hb := H) (c := c) (d := d) (pt := pt) (by omega) (by omega) hp hq).1 ⟨fit2_of ha hb, hpt⟩

theorem app_fit {W H : Int} {p q w : Option Addr} {c d wc : Nat} {la lb : List Px} {lw : List Int} (ha : PFit W H la) (hb : PFit W H lb) (hlw : lw.length ≤ 65536) {M : AMem} (hp : RdL M encP p la.length la) (hq : RdL M encP q lb.length lb) (hw : RdI M .i64 w lw.length lw) :
    ∃ M' a, LL.call 11 [picV W H p la.length c, .slice w lw.length wc, picV W H q lb.length d] M = some (.tuple #[picV W H (some ⟨a, 0, none⟩) la.length 3, .bool true], M') ∧ Cells M' a ((apL 0 la lb lw).flatMap encP) ∧ Same M M' [] ∧ M.length ≤ a := by
  have h1 := ha.len
  have h2 := hb.len
  exact (apply_spec (Wa := W) (Ha := H) (Wb := W) (Hb := H) (c := c) (d := d) (wc := wc) (by omega) (by omega) hlw hp hq hw).1 (fit2_of ha hb)

/-- Two pictures are handed over. -/
theorem two_of {x y : Nat} {W H : Int} {p q : Option Addr} {c d : Nat} {la lb : List Px} {M : AMem} (zs : List Value) (ha : IsPic M x W H p c la) (hb : IsPic M y W H q d lb) :
    ∃ M1 M2 M3, M1 = M ++ [AObj.cells zs ⟨false, 0⟩] ∧ LL.call 7 [picV W H p la.length c] M1 = some (picV W H p la.length c, M2) ∧ LL.call 7 [picV W H q lb.length d] M2 = some (picV W H q lb.length d, M3) ∧
      IsPic M1 x W H p c la ∧ IsPic M2 y W H q d lb ∧ IsPic M3 x W H p c la ∧ IsPic M3 y W H q d lb ∧ Same M M3 [] ∧ Cells M3 M.length zs ∧ M1.length = M.length + 1 ∧ Same M1 M2 [] ∧ Same M2 M3 [] := by
  have s1 := same_app M [AObj.cells zs ⟨false, 0⟩]
  have g1 := cells_new M zs 0
  obtain ⟨M2, e2, s2⟩ := of49_spec W H p la.length c (M ++ [AObj.cells zs ⟨false, 0⟩])
  obtain ⟨M3, e3, s3⟩ := of49_spec W H q lb.length d M2
  have h2 : Same M M2 [] := (s1.trans s2).mono (by simp)
  have h3 : Same M M3 [] := (h2.trans s3).mono (by simp)
  exact ⟨_, M2, M3, rfl, e2, e3, ha.st s1, hb.st h2, ha.st h3, hb.st h3, h3, (g1.same s2 (by simp)).same s3 (by simp), by simp, s2, s3⟩

theorem p38 {W H pt : Int} {x4 x5 x9 x17 x19 x23 x25 x27 : Nat} {p4 p5 p17 p19 p25 p27 : Option Addr} {c4 c5 c17 c19 c25 c27 : Nat} {la lb : List Px} (ha : PFit W H la) (hb : PFit W H lb) (hn : la.length = lb.length) (hpt : 0 ≤ pt ∧ pt ≤ 1000) {M : AMem}
    (a : IsPic M x4 W H p4 c4 la) (b : IsPic M x5 W H p5 c5 lb) (s : Rd M x9 (smC (smL la lb))) (x : IsPic M x17 W H p17 c17 lb) (y : IsPic M x19 W H p19 c19 la) (d : Rd M x23 (smC (smL la (mixL pt la lb)))) (z : IsPic M x25 W H p25 c25 la) (e : IsPic M x27 W H p27 c27 lb) :
    ∃ M', P4_38 LL x4 x5 x9 x17 true x19 true x23 x25 x27 M = some (.bool true, M') := by
  obtain ⟨_, aw⟩ := awake49
  have l1 := ha.len
  have l2 := hb.len
  obtain ⟨x0, x1, x2⟩ := picV_ld x.hd
  obtain ⟨M1, b1, s1⟩ := back49_spec W H p17 lb.length c17 M
  obtain ⟨f0, f1, f2⟩ := picV_ld (b.st s1).hd
  obtain ⟨M2, b2, s2⟩ := same41_spec (Wa := W) (Ha := H) (Wb := W) (Hb := H) (c := c17) (d := c5) (by omega) (x.st s1).px (b.st s1).px
  have t2 : Same M M2 [] := (s1.trans s2).mono (by simp)
  obtain ⟨y0, y1, y2⟩ := picV_ld (y.st t2).hd
  obtain ⟨M3, b3, s3⟩ := back49_spec W H p19 la.length c19 M2
  have t3 : Same M M3 [] := (t2.trans s3).mono (by simp)
  obtain ⟨g0, g1, g2⟩ := picV_ld (a.st t3).hd
  obtain ⟨M4, b4, s4⟩ := same41_spec (Wa := W) (Ha := H) (Wb := W) (Hb := H) (c := c19) (d := c4) (by omega) (y.st t3).px (a.st t3).px
  have t4 : Same M M4 [] := (t3.trans s4).mono (by simp)
  obtain ⟨z0, z1, z2⟩ := picV_ld (z.st t4).hd
  obtain ⟨M5, b5, s5⟩ := back49_spec W H p25 la.length c25 M4
  have t5 : Same M M5 [] := (t4.trans s5).mono (by simp)
  obtain ⟨h0, h1, h2⟩ := picV_ld (a.st t5).hd
  obtain ⟨M6, b6, s6⟩ := same41_spec (Wa := W) (Ha := H) (Wb := W) (Hb := H) (c := c25) (d := c4) (by omega) (z.st t5).px (a.st t5).px
  have t6 : Same M M6 [] := (t5.trans s6).mono (by simp)
  obtain ⟨e0, e1, e2⟩ := picV_ld (e.st t6).hd
  obtain ⟨M7, b7, s7⟩ := back49_spec W H p27 lb.length c27 M6
  have t7 : Same M M7 [] := (t6.trans s7).mono (by simp)
  obtain ⟨i0, i1, i2⟩ := picV_ld (b.st t7).hd
  obtain ⟨M8, b8, s8⟩ := same41_spec (Wa := W) (Ha := H) (Wb := W) (Hb := H) (c := c27) (d := c5) (by omega) (e.st t7).px (b.st t7).px
  have t8 : Same M M8 [] := (t7.trans s8).mono (by simp)
  obtain ⟨n0, n1, n2, n3⟩ := smC_ld (s.same t8 (by simp))
  obtain ⟨k0, k1, k2, k3⟩ := smC_ld (d.same t8 (by simp))
  obtain ⟨j0, j1, j2⟩ := picV_ld (a.st t8).hd
  unfold picV at b1 b2 b3 b4 b5 b6 b7 b8
  have hbd := a_le la lb ha.1 hb.1
  have hq := q_le la lb ha.1 hb.1
  have m0 := mL_nonneg la lb
  have a0 := aL_nonneg la lb
  have q0 := qL_nonneg la lb
  have em : (smL la lb).m = mL la lb := rfl
  have ea : (smL la lb).a = aL la lb := rfl
  have eq : (smL la lb).q = qL la lb := rfl
  have ed : (smL la (mixL pt la lb)).m = mL la (mixL pt la lb) := rfl
  have mm : mL la lb * mL la lb ≤ 255 * 255 := Int.mul_le_mul hbd.2.1 hbd.2.1 m0 (by omega)
  have mm0 := Int.mul_nonneg m0 m0
  have ma : mL la lb * aL la lb ≤ 255 * (765 * 65536) := Int.mul_le_mul hbd.2.1 (by omega) a0 (by omega)
  have ma0 := Int.mul_nonneg m0 a0
  have w1 : IntKind.wrap .i64 (mL la lb * mL la lb) = mL la lb * mL la lb := w64 (by omega)
  have w2 : IntKind.wrap .i64 (mL la lb * aL la lb) = mL la lb * aL la lb := w64 (by omega)
  have c1 := mixL_far hpt la lb
  have c2 := m_q la lb
  have c3 := q_ma (M := mL la lb) la lb (Int.le_refl _)
  obtain ⟨_, r, hr, hr1, hr2⟩ := drootE (nL la lb) (mL la lb) (aL la lb) (qL la lb) (la.length : Int)
  have en : (smL la lb).n = nL la lb := rfl
  have c4 : r ≤ mL la lb := by
    by_cases hg : 0 ≤ qL la lb ∧ qL la lb ≤ 1099511627776 ∧ 1 ≤ (la.length : Int) ∧ (la.length : Int) ≤ 65536
    · obtain ⟨rs, rfl, hrs⟩ := hr2 hg
      have h3 := q_len (M := mL la lb) la lb (Int.le_refl _)
      have h4 : qL la lb / (3 * (la.length : Int)) ≤ mL la lb * mL la lb := by
        refine Int.ediv_le_of_le_mul (by omega) ?_
        rw [Int.mul_comm]; exact h3
      have h5 : (qL la lb / (3 * (la.length : Int))).toNat ≤ (mL la lb).toNat * (mL la lb).toNat := by
        have e1 : ((mL la lb).toNat : Int) = mL la lb := Int.toNat_of_nonneg m0
        have e2 : (((mL la lb).toNat * (mL la lb).toNat : Nat) : Int) = mL la lb * mL la lb := by rw [Int.natCast_mul, e1]
        omega
      have := hrs.le h5
      omega
    · rw [hr1 hg]; exact m0
  have hck : chkOk [(7, 6), (13, 12), (19, 18), (25, 24)] [(25, x5), (19, x4), (13, x4), (7, x5)] [(24, (M6, M7)), (18, (M4, M5)), (12, (M2, M3)), (6, (M, M1))] = true := by
    have u1 := ver_same s1 b.lt (by simp)
    have u2 := ver_same s3 (a.st t2).lt (by simp)
    have u3 := ver_same s5 (a.st t4).lt (by simp)
    have u4 := ver_same s7 (b.st t6).lt (by simp)
    simp [chkOk, List.lookup, u1, u2, u3, u4]
  refine ⟨M8, ?_⟩
  rw [P4_38_eq]
  simp only [if_true, x0, x1, x2, y0, y1, y2, z0, z1, z2, e0, e1, e2, f0, f1, f2, g0, g1, g2, h0, h1, h2, i0, i1, i2, j0, j1, j2, n0, n1, n2, n3, k0, k1, k2, k3, intOf_int, sliceOf_slice, Option.bind_some, b1, b2, b3, b4, b5, b6, b7, b8, agg3, get0, get1, get2, boolOf_bool, and_self, decide_true,
    em, ea, eq, ed, en, w1, w2, c1, c2, c3, ofN, hr, c4, aw, hck]

theorem p34 {W H pt : Int} {x4 x5 x9 x17 x19 x23 : Nat} {p4 p5 p17 p19 : Option Addr} {c4 c5 c17 c19 : Nat} {la lb : List Px} (ha : PFit W H la) (hb : PFit W H lb) (hn : la.length = lb.length) (hpt : 0 ≤ pt ∧ pt ≤ 1000) {M : AMem}
    (a : IsPic M x4 W H p4 c4 la) (b : IsPic M x5 W H p5 c5 lb) (s : Rd M x9 (smC (smL la lb))) (x : IsPic M x17 W H p17 c17 lb) (y : IsPic M x19 W H p19 c19 la) (d : Rd M x23 (smC (smL la (mixL pt la lb)))) :
    ∃ M', P4_34 LL x4 x5 x9 x17 true x19 true x23 M = some (.bool true, M') := by
  obtain ⟨M1, M2, M3, k1, k2, k3, k4, k5, k6, k7, k8, k9, k10, k11, k12⟩ := two_of [.int .i64 0, .int .i64 0, .slice none 0 0] a b
  obtain ⟨M4, z, e4, z4, s4, _⟩ := mix_fit (pt := 0) (c := c4) (d := c5) ha hb (by omega) k6.px k7.px
  rw [mixL_0 la lb hn] at z4
  obtain ⟨M5, w1, w2, w3, w4⟩ := (k9.same s4 (by simp)).wr (o := 0) (vs := [.int .i64 W, .int .i64 H, .slice (some ⟨z, 0, none⟩) la.length 3]) (by simp)
  have w2' : Cells M5 M.length [.int .i64 W, .int .i64 H, .slice (some ⟨z, 0, none⟩) la.length 3] := by simpa [wrL] using w2
  have t5 : Same M M5 [] := ((k8.trans s4).trans w3).mono' (by simp <;> omega)
  have lM3 := k9.lt
  have hz5 : IsPic M5 M.length W H (some ⟨z, 0, none⟩) 3 la := ⟨w2'.rd, rdl_of (z4.same w3 (by simp; omega))⟩
  have q1 : chkOk [(2, 1), (8, 1), (8, 3), (8, 4)] [(8, M.length), (2, x5)] [(4, (M3, M4)), (3, (M2, M3)), (1, (M1, M2))] = true := by
    have u1 := ver_same k11 (show x5 < M1.length by have := b.lt; omega) (by simp)
    have u2 := ver_same k11 (show M.length < M1.length by omega) (by simp)
    have u3 := ver_same k12 (show M.length < M2.length by have := k11.le; omega) (by simp)
    have u4 := ver_same s4 lM3 (by simp)
    simp [chkOk, List.lookup, u1, u2, u3, u4]
  obtain ⟨N1, N2, N3, j1, j2, j3, j4, j5, j6, j7, j8, j9, j10, j11, j12⟩ := two_of [.int .i64 0, .int .i64 0, .slice none 0 0] (a.st t5) (b.st t5)
  obtain ⟨N4, v, e5, v4, r4, _⟩ := mix_fit (pt := 1000) (c := c4) (d := c5) ha hb (by omega) j6.px j7.px
  rw [mixL_1000 la lb hn] at v4
  obtain ⟨N5, y1, y2, y3, y4⟩ := (j9.same r4 (by simp)).wr (o := 0) (vs := [.int .i64 W, .int .i64 H, .slice (some ⟨v, 0, none⟩) la.length 3]) (by simp)
  have y2' : Cells N5 M5.length [.int .i64 W, .int .i64 H, .slice (some ⟨v, 0, none⟩) lb.length 3] := by rw [← hn]; simpa [wrL] using y2
  have t10 : Same M5 N5 [] := ((j8.trans r4).trans y3).mono' (by simp <;> omega)
  have lN3 := j9.lt
  have hv5 : IsPic N5 M5.length W H (some ⟨v, 0, none⟩) 3 lb := ⟨y2'.rd, rdl_of (v4.same y3 (by simp; omega))⟩
  have q2 : chkOk [(2, 1), (8, 1), (8, 3), (8, 4)] [(8, M5.length), (2, x5)] [(4, (N3, N4)), (3, (N2, N3)), (1, (N1, N2))] = true := by
    have u1 := ver_same j11 (show x5 < N1.length by have := (b.st t5).lt; omega) (by simp)
    have u2 := ver_same j11 (show M5.length < N1.length by omega) (by simp)
    have u3 := ver_same j12 (show M5.length < N2.length by have := j11.le; omega) (by simp)
    have u4 := ver_same r4 lN3 (by simp)
    simp [chkOk, List.lookup, u1, u2, u3, u4]
  have tt : Same M N5 [] := (t5.trans t10).mono (by simp)
  obtain ⟨M', hM'⟩ := p38 ha hb hn hpt (a.st tt) (b.st tt) (s.same tt (by simp)) (x.st tt) (y.st tt) (d.same tt (by simp)) (hz5.st t10) hv5
  refine ⟨M', ?_⟩
  obtain ⟨a0, a1, a2⟩ := picV_ld k4.hd
  obtain ⟨b0, b1, b2⟩ := picV_ld k5.hd
  obtain ⟨d0, d1, d2⟩ := picV_ld j4.hd
  obtain ⟨f0, f1, f2⟩ := picV_ld j5.hd
  unfold picV at k2 k3 j2 j3 e4 e5
  rw [P4_34_eq, ← k1]
  simp only [↓bLI a0, ↓bLI a1, ↓bLS a2, ↓bLI b0, ↓bLI b1, ↓bLS b2, ↓bX k2, ↓bX k3, ↓bX e4, ↓bX w1, ↓bA3, ↓bA4, ↓bT2, ↓bI0, ↓bI1, ↓bI2, ↓bI3, ↓bS2, ↓bG0, ↓bG1, ↓bS, ↓bB, ↓if_pos q1]
  rw [← j1]
  simp only [↓bLI d0, ↓bLI d1, ↓bLS d2, ↓bLI f0, ↓bLI f1, ↓bLS f2, ↓bX j2, ↓bX j3, ↓bX e5, ↓bX y1, ↓bA3, ↓bA4, ↓bT2, ↓bI0, ↓bI1, ↓bI2, ↓bI3, ↓bS2, ↓bG0, ↓bG1, ↓bS, ↓bB, ↓if_pos q2]
  exact hM'

theorem p30 {W H x3 : Int} {x4 x5 x9 x17 x19 : Nat} {p4 p5 p17 p19 : Option Addr} {c4 c5 c17 c19 : Nat} {la lb : List Px} (hx3 : 0 ≤ x3 ∧ x3 ≤ 65535) (ha : PFit W H la) (hb : PFit W H lb) (hn : la.length = lb.length) {M : AMem}
    (a : IsPic M x4 W H p4 c4 la) (b : IsPic M x5 W H p5 c5 lb) (s : Rd M x9 (smC (smL la lb))) (x : IsPic M x17 W H p17 c17 lb) (y : IsPic M x19 W H p19 c19 la) :
    ∃ M', P4_30 LL x3 x4 x5 x9 x17 true x19 M = some (.bool true, M') := by
  have hpt : 0 ≤ Int.tmod (IntKind.wrap .i64 x3) 1001 ∧ Int.tmod (IntKind.wrap .i64 x3) 1001 ≤ 1000 := by
    rw [w64 (by omega), Int.tmod_eq_emod_of_nonneg hx3.1]; omega
  generalize hpt' : Int.tmod (IntKind.wrap .i64 x3) 1001 = pt at hpt
  have hm : PFit W H (mixL pt la lb) := ⟨mixL_fit hpt la lb ha.1 hb.1, ha.2.1, ha.2.2.1, by rw [mixL_length hn]; exact ha.2.2.2⟩
  have hml : (mixL pt la lb).length = la.length := mixL_length hn
  obtain ⟨M1, M2, M3, k1, k2, k3, k4, k5, k6, k7, k8, k9, k10, k11, k12⟩ := two_of [.int .i64 0, .int .i64 0, .slice none 0 0] a b
  obtain ⟨M4, z, e4, z4, s4, _⟩ := mix_fit (pt := pt) (c := c4) (d := c5) ha hb hpt k6.px k7.px
  obtain ⟨M5, w1, w2, w3, w4⟩ := (k9.same s4 (by simp)).wr (o := 0) (vs := [.int .i64 W, .int .i64 H, .slice (some ⟨z, 0, none⟩) la.length 3]) (by simp)
  have w2' : Cells M5 M.length [.int .i64 W, .int .i64 H, .slice (some ⟨z, 0, none⟩) (mixL pt la lb).length 3] := by rw [hml]; simpa [wrL] using w2
  have t5 : Same M M5 [] := ((k8.trans s4).trans w3).mono' (by simp <;> omega)
  have lM3 := k9.lt
  have hz5 : IsPic M5 M.length W H (some ⟨z, 0, none⟩) 3 (mixL pt la lb) := ⟨w2'.rd, rdl_of (z4.same w3 (by simp; omega))⟩
  have q1 : chkOk [(2, 1), (11, 1), (11, 3), (11, 7)] [(11, M.length), (2, x5)] [(7, (M3, M4)), (3, (M2, M3)), (1, (M1, M2))] = true := by
    have u1 := ver_same k11 (show x5 < M1.length by have := b.lt; omega) (by simp)
    have u2 := ver_same k11 (show M.length < M1.length by omega) (by simp)
    have u3 := ver_same k12 (show M.length < M2.length by have := k11.le; omega) (by simp)
    have u4 := ver_same s4 lM3 (by simp)
    simp [chkOk, List.lookup, u1, u2, u3, u4]
  have g6 := cells_new M5 [.int .i64 0, .int .i64 0, .int .i64 0, .int .i64 0] 0
  have s6 := same_app M5 [AObj.cells [.int .i64 0, .int .i64 0, .int .i64 0, .int .i64 0] ⟨false, 0⟩]
  have n6 : (M5 ++ [AObj.cells [.int .i64 0, .int .i64 0, .int .i64 0, .int .i64 0] ⟨false, 0⟩]).length = M5.length + 1 := by simp
  generalize hM6 : M5 ++ [AObj.cells [.int .i64 0, .int .i64 0, .int .i64 0, .int .i64 0] ⟨false, 0⟩] = M6 at g6 s6 n6
  have t6 : Same M M6 [] := (t5.trans s6).mono (by simp)
  obtain ⟨M7, e7, s7⟩ := of49_spec W H p4 la.length c4 M6
  have t7 : Same M M7 [] := (t6.trans s7).mono (by simp)
  have hz7 := (hz5.st s6).st s7
  obtain ⟨M8, e8, s8⟩ := of_fit (c := c4) (d := 3) ha hm (a.st t7).px hz7.px
  obtain ⟨M9, y1, y2, y3, y4⟩ := ((g6.same s7 (by simp)).same s8 (by simp)).wr (o := 0) (vs := smC (smL la (mixL pt la lb))) (by simp [smC])
  have y2' : Cells M9 M5.length (smC (smL la (mixL pt la lb))) := by simpa [wrL, smC] using y2
  have l7 := s7.le
  have t9 : Same M M9 [] := ((t7.trans s8).trans y3).mono' (by have := t5.le; simp; omega)
  have q2 : chkOk [(2, 1), (7, 1), (7, 3)] [(7, M5.length), (2, M.length)] [(3, (M7, M8)), (1, (M6, M7))] = true := by
    have u1 := ver_same s7 (show M.length < M6.length by have := hz5.lt; omega) (by simp)
    have u2 := ver_same s7 (show M5.length < M6.length by omega) (by simp)
    have u3 := ver_same s8 (show M5.length < M7.length by omega) (by simp)
    simp [chkOk, List.lookup, u1, u2, u3]
  obtain ⟨M', hM'⟩ := p34 ha hb hn hpt (a.st t9) (b.st t9) (s.same t9 (by simp)) (x.st t9) (y.st t9) y2'.rd
  refine ⟨M', ?_⟩
  obtain ⟨a0, a1, a2⟩ := picV_ld k4.hd
  obtain ⟨b0, b1, b2⟩ := picV_ld k5.hd
  obtain ⟨d0, d1, d2⟩ := picV_ld (a.st t6).hd
  obtain ⟨f0, f1, f2⟩ := picV_ld hz7.hd
  unfold picV at k2 k3 e4 e7 e8
  unfold smC at y1
  rw [hml] at e8 f2
  rw [P4_30_eq, ← k1]
  simp only [↓bLI a0, ↓bLI a1, ↓bLS a2, ↓bLI b0, ↓bLI b1, ↓bLS b2, hpt', ↓bX k2, ↓bX k3, ↓bX e4, ↓bX w1, ↓bA3, ↓bA4, ↓bT2, ↓bI0, ↓bI1, ↓bI2, ↓bI3, ↓bS2, ↓bG0, ↓bG1, ↓bS, ↓bB, ↓if_pos q1]
  rw [hM6]
  simp only [↓bLI d0, ↓bLI d1, ↓bLS d2, ↓bLI f0, ↓bLI f1, ↓bLS f2, ↓bX e7, ↓bX e8, ↓bX y1, ↓bA3, ↓bA4, ↓bT2, ↓bI0, ↓bI1, ↓bI2, ↓bI3, ↓bS2, ↓bG0, ↓bG1, ↓bS, ↓bB, ↓if_pos q2]
  exact hM'

theorem p21 {W H x3 : Int} {x4 x5 x9 : Nat} {p4 p5 : Option Addr} {c4 c5 : Nat} {la lb : List Px} (hx3 : 0 ≤ x3 ∧ x3 ≤ 65535) (ha : PFit W H la) (hb : PFit W H lb) (hn : la.length = lb.length) {M : AMem}
    (a : IsPic M x4 W H p4 c4 la) (b : IsPic M x5 W H p5 c5 lb) (s : Rd M x9 (smC (smL la lb))) :
    ∃ M', P4_21 LL x3 x4 x5 x9 false M = some (.bool true, M') := by
  have l1 := ha.len
  have l2 := hb.len
  have g1 := cells_new M [.int .i64 0, .int .i64 0, .slice none 0 0] 0
  have s1 := same_app M [AObj.cells [.int .i64 0, .int .i64 0, .slice none 0 0] ⟨false, 0⟩]
  have n1 : (M ++ [AObj.cells [.int .i64 0, .int .i64 0, .slice none 0 0] ⟨false, 0⟩]).length = M.length + 1 := by simp
  generalize hM1 : M ++ [AObj.cells [.int .i64 0, .int .i64 0, .slice none 0 0] ⟨false, 0⟩] = M1 at g1 s1 n1
  obtain ⟨M2, e2, s2⟩ := of49_spec W H p4 la.length c4 M1
  have t2 : Same M M2 [] := (s1.trans s2).mono (by simp)
  obtain ⟨M3, e3, s3⟩ := of49_spec W H p4 la.length c4 M2
  have t3 : Same M M3 [] := (t2.trans s3).mono (by simp)
  obtain ⟨M4, e4, s4⟩ := of49_spec W H p5 lb.length c5 M3
  have t4 : Same M M4 [] := (t3.trans s4).mono (by simp)
  obtain ⟨M5, o, oc, e5, o1, s5, o2⟩ := where_spec (Wa := W) (Ha := H) (Wb := W) (Hb := H) (c := c4) (d := c5) (by omega) (by omega) (a.st t4).px (b.st t4).px
  rw [if_pos (fit2_of ha hb)] at e5 o1
  have t5 : Same M M5 [] := (t4.trans s5).mono (by simp)
  obtain ⟨M6, e6, s6⟩ := of49_spec W H p5 lb.length c5 M5
  have t6 : Same M M6 [] := (t5.trans s6).mono (by simp)
  have hwl := whL_length 0 la lb
  obtain ⟨M7, z, e7, z7, s7, _⟩ := app_fit (c := c4) (d := c5) (wc := oc) ha hb (by omega) (a.st t6).px (b.st t6).px (RdI.of_slc (o1.same s6 (by simp)))
  rw [apL_where 0 la lb hn] at z7
  have g6 := ((((g1.same s2 (by simp)).same s3 (by simp)).same s4 (by simp)).same s5 (by simp)).same s6 (by simp)
  obtain ⟨M8, w1, w2, w3, w4⟩ := (g6.same s7 (by simp)).wr (o := 0) (vs := [.int .i64 W, .int .i64 H, .slice (some ⟨z, 0, none⟩) la.length 3]) (by simp)
  have w2' : Cells M8 M.length [.int .i64 W, .int .i64 H, .slice (some ⟨z, 0, none⟩) lb.length 3] := by rw [← hn]; simpa [wrL] using w2
  have t8 : Same M M8 [] := ((t6.trans s7).trans w3).mono' (by simp <;> omega)
  have l6 := g6.lt
  have hz8 : IsPic M8 M.length W H (some ⟨z, 0, none⟩) 3 lb := ⟨w2'.rd, rdl_of (z7.same w3 (by simp; omega))⟩
  have q1 : chkOk [(2, 1), (4, 1), (4, 3), (7, 1), (7, 3), (7, 5), (7, 6), (13, 1), (13, 3), (13, 5), (13, 6), (13, 8), (13, 9)] [(13, M.length), (7, x5), (4, x5), (2, x4)] [(9, (M6, M7)), (8, (M5, M6)), (6, (M4, M5)), (5, (M3, M4)), (3, (M2, M3)), (1, (M1, M2))] = true := by
    have i1 := (a.st s1).lt
    have i2 := (b.st s1).lt
    have i3 := g1.lt
    have j2 := s2.le
    have j3 := s3.le
    have j4 := s4.le
    have j5 := s5.le
    have u1 := ver_same s2 i1 (by simp)
    have u2 := ver_same s2 i2 (by simp)
    have u3 := ver_same s2 i3 (by simp)
    have u4 := ver_same s3 (show x5 < M2.length by omega) (by simp)
    have u5 := ver_same s3 (show M.length < M2.length by omega) (by simp)
    have u6 := ver_same s4 (show x5 < M3.length by omega) (by simp)
    have u7 := ver_same s4 (show M.length < M3.length by omega) (by simp)
    have u8 := ver_same s5 (show x5 < M4.length by omega) (by simp)
    have u9 := ver_same s5 (show M.length < M4.length by omega) (by simp)
    have u10 := ver_same s6 (show M.length < M5.length by omega) (by simp)
    have u11 := ver_same s7 l6 (by simp)
    simp [chkOk, List.lookup, u1, u2, u3, u4, u5, u6, u7, u8, u9, u10, u11]
  obtain ⟨N1, N2, N3, k1, k2, k3, k4, k5, k6, k7, k8, k9, k10, k11, k12⟩ := two_of [.int .i64 0, .int .i64 0, .slice none 0 0] (a.st t8) (b.st t8)
  obtain ⟨N4, v, e8, v4, r4, _⟩ := app_fit (c := c4) (d := c5) (w := none) (wc := 0) (lw := []) ha hb (by simp) k6.px k7.px ⟨rfl, fun h => by simp at h⟩
  rw [apL_nil 0 la lb hn] at v4
  obtain ⟨N5, y1, y2, y3, y4⟩ := (k9.same r4 (by simp)).wr (o := 0) (vs := [.int .i64 W, .int .i64 H, .slice (some ⟨v, 0, none⟩) la.length 3]) (by simp)
  have y2' : Cells N5 M8.length [.int .i64 W, .int .i64 H, .slice (some ⟨v, 0, none⟩) la.length 3] := by simpa [wrL] using y2
  have t10 : Same M8 N5 [] := ((k8.trans r4).trans y3).mono' (by simp <;> omega)
  have lN3 := k9.lt
  have hv5 : IsPic N5 M8.length W H (some ⟨v, 0, none⟩) 3 la := ⟨y2'.rd, rdl_of (v4.same y3 (by simp; omega))⟩
  have q2 : chkOk [(2, 1), (8, 1), (8, 3), (8, 4)] [(8, M8.length), (2, x5)] [(4, (N3, N4)), (3, (N2, N3)), (1, (N1, N2))] = true := by
    have u1 := ver_same k11 (show x5 < N1.length by have := (b.st t8).lt; omega) (by simp)
    have u2 := ver_same k11 (show M8.length < N1.length by omega) (by simp)
    have u3 := ver_same k12 (show M8.length < N2.length by have := k11.le; omega) (by simp)
    have u4 := ver_same r4 lN3 (by simp)
    simp [chkOk, List.lookup, u1, u2, u3, u4]
  have tt : Same M N5 [] := (t8.trans t10).mono (by simp)
  obtain ⟨M', hM'⟩ := p30 hx3 ha hb hn (a.st tt) (b.st tt) (s.same tt (by simp)) (hz8.st t10) hv5
  refine ⟨M', ?_⟩
  obtain ⟨a0, a1, a2⟩ := picV_ld (a.st s1).hd
  obtain ⟨b0, b1, b2⟩ := picV_ld (a.st t2).hd
  obtain ⟨d0, d1, d2⟩ := picV_ld (b.st t3).hd
  obtain ⟨f0, f1, f2⟩ := picV_ld (b.st t5).hd
  obtain ⟨h0, h1, h2⟩ := picV_ld k4.hd
  obtain ⟨i0, i1, i2⟩ := picV_ld k5.hd
  unfold picV at e2 e3 e4 e5 e6 e7 k2 k3 e8
  rw [P4_21_eq]
  rw [ifF, hM1]
  simp only [↓bLI a0, ↓bLI a1, ↓bLS a2, ↓bLI b0, ↓bLI b1, ↓bLS b2, ↓bLI d0, ↓bLI d1, ↓bLS d2, ↓bLI f0, ↓bLI f1, ↓bLS f2, ↓bX e2, ↓bX e3, ↓bX e4, ↓bX e5, ↓bX e6, ↓bX e7, ↓bX w1, ↓bA3, ↓bA4, ↓bT2, ↓bI0, ↓bI1, ↓bI2, ↓bI3, ↓bS2, ↓bG0, ↓bG1, ↓bS, ↓bB, ↓if_pos q1]
  rw [← k1]
  rw [show (List.length ([] : List Int)) = 0 from rfl] at e8
  simp only [↓bLI h0, ↓bLI h1, ↓bLS h2, ↓bLI i0, ↓bLI i1, ↓bLS i2, ↓bX k2, ↓bX k3, ↓bX e8, ↓bX y1, ↓bA3, ↓bA4, ↓bT2, ↓bI0, ↓bI1, ↓bI2, ↓bI3, ↓bS2, ↓bG0, ↓bG1, ↓bS, ↓bB, ↓if_pos q2]
  exact hM'

theorem p16 {W H x3 : Int} {x4 x5 x6 x9 x11 x13 : Nat} {p4 p5 p6 : Option Addr} {c4 c5 c6 : Nat} {la lb lc : List Px} (hx3 : 0 ≤ x3 ∧ x3 ≤ 65535) (ha : PFit W H la) (hb : PFit W H lb) (hc : PFit W H lc) (hn : la.length = lb.length) (hn2 : lb.length = lc.length) {M : AMem}
    (a : IsPic M x4 W H p4 c4 la) (b : IsPic M x5 W H p5 c5 lb) (c : IsPic M x6 W H p6 c6 lc) (s : Rd M x9 (smC (smL la lb))) (t : Rd M x11 (smC (smL lb la))) (u : Rd M x13 (smC (smL lb lc))) :
    ∃ M', P4_16 LL x3 x4 x5 x6 x9 true x11 true x13 true M = some (.bool true, M') := by
  have l1 := ha.len
  have l2 := hb.len
  obtain ⟨M1, M2, M3, k1, k2, k3, k4, k5, k6, k7, k8, k9, k10, k11, k12⟩ := two_of [.int .i64 0, .int .i64 0, .int .i64 0, .int .i64 0] a c
  obtain ⟨M4, e4, s4⟩ := of_fit (c := c4) (d := c6) ha hc k6.px k7.px
  obtain ⟨M5, w1, w2, w3, w4⟩ := (k9.same s4 (by simp)).wr (o := 0) (vs := smC (smL la lc)) (by simp [smC])
  have w2' : Cells M5 M.length (smC (smL la lc)) := by simpa [wrL, smC] using w2
  have t5 : Same M M5 [] := ((k8.trans s4).trans w3).mono' (by simp <;> omega)
  have lM3 := k9.lt
  have q1 : chkOk [(2, 1), (8, 1), (8, 3), (8, 4)] [(8, M.length), (2, x6)] [(4, (M3, M4)), (3, (M2, M3)), (1, (M1, M2))] = true := by
    have u1 := ver_same k11 (show x6 < M1.length by have := c.lt; omega) (by simp)
    have u2 := ver_same k11 (show M.length < M1.length by omega) (by simp)
    have u3 := ver_same k12 (show M.length < M2.length by have := k11.le; omega) (by simp)
    have u4 := ver_same s4 lM3 (by simp)
    simp [chkOk, List.lookup, u1, u2, u3, u4]
  obtain ⟨M6, e6, s6⟩ := same41_spec (Wa := W) (Ha := H) (Wb := W) (Hb := H) (c := c4) (d := c5) (by omega) (a.st t5).px (b.st t5).px
  have t6 : Same M M6 [] := (t5.trans s6).mono (by simp)
  have q2 : chkOk [(20, 25)] [(20, x9)] [(25, (M5, M6))] = true := by
    have u1 := ver_same s6 (s.same t5 (by simp)).lt (by simp)
    simp [chkOk, List.lookup, u1]
  obtain ⟨M', hM'⟩ := p21 hx3 ha hb hn (a.st t6) (b.st t6) (s.same t6 (by simp))
  refine ⟨M', ?_⟩
  obtain ⟨a0, a1, a2⟩ := picV_ld k4.hd
  obtain ⟨b0, b1, b2⟩ := picV_ld k5.hd
  obtain ⟨d0, d1, d2, d3⟩ := smC_ld (s.same t5 (by simp))
  obtain ⟨f0, f1, f2, f3⟩ := smC_ld (t.same t5 (by simp))
  obtain ⟨h0, h1, h2⟩ := picV_ld (a.st t5).hd
  obtain ⟨i0, i1, i2⟩ := picV_ld (b.st t5).hd
  obtain ⟨g0, g1, g2, g3⟩ := smC_ld (s.same t6 (by simp))
  obtain ⟨j0, j1, j2, j3⟩ := smC_ld (u.same t6 (by simp))
  obtain ⟨v0, v1, v2, v3⟩ := smC_ld (w2'.rd.same s6 (by simp))
  unfold picV at k2 k3 e4 e6
  unfold smC at w1
  have hz : (((smL la lb).n == 0) && (((smL la lb).m == 0) && (((smL la lb).a == 0) && ((smL la lb).q == 0)))) = decide (la = lb) := by
    have := smL_zero hn
    by_cases e : la = lb
    · rw [this.2 e]; simp [e]
    · have hne : nL la lb ≠ 0 := fun h => e (nL_zero hn h)
      simp [smL, hne, e]
  have r1 := tri_a la lb lc hn hn2
  have r2 := tri_m la lb lc hn hn2
  have r3 := tri_n la lb lc hn hn2
  have b1' := a_le la lb ha.1 hb.1
  have b2' := a_le lb lc hb.1 hc.1
  have p1 := aL_nonneg la lb
  have p2 := aL_nonneg lb lc
  have p3 := mL_nonneg la lb
  have p4 := mL_nonneg lb lc
  have p5 := nL_nonneg la lb
  have p6 := nL_nonneg lb lc
  have en : ∀ l k, (smL l k).n = nL l k := fun _ _ => rfl
  have em : ∀ l k, (smL l k).m = mL l k := fun _ _ => rfl
  have ea : ∀ l k, (smL l k).a = aL l k := fun _ _ => rfl
  have x1 : ¬ aL la lc > IntKind.wrap .i64 (aL la lb + aL lb lc) := by rw [w64 (by omega)]; omega
  have x2 : ¬ mL la lc > IntKind.wrap .i64 (mL la lb + mL lb lc) := by rw [w64 (by omega)]; omega
  have x3' : ¬ nL la lc > IntKind.wrap .i64 (nL la lb + nL lb lc) := by rw [w64 (by omega)]; omega
  rw [P4_16_eq, ← k1]
  have hbq : ((!(((smL la lb).n == (smL lb la).n) && (((smL la lb).m == (smL lb la).m) && (((smL la lb).a == (smL lb la).a) && ((smL la lb).q == (smL lb la).q))))) = true) = False := by
    rw [smL_comm lb la]; simp
  have hz2 : ((!((((smL la lb).n == 0) && (((smL la lb).m == 0) && (((smL la lb).a == 0) && ((smL la lb).q == 0)))) == decide (la = lb))) = true) = False := by
    rw [hz]; simp
  rw [show decide (W = W ∧ H = H ∧ la = lb) = decide (la = lb) by simp] at e6
  have x1' : ¬ (smL la lc).a > IntKind.wrap .i64 ((smL la lb).a + (smL lb lc).a) := x1
  have x2' : ¬ (smL la lc).m > IntKind.wrap .i64 ((smL la lb).m + (smL lb lc).m) := x2
  have x3'' : decide ((smL la lc).n > IntKind.wrap .i64 ((smL la lb).n + (smL lb lc).n)) = false := decide_eq_false x3'
  simp only [↓bLI a0, ↓bLI a1, ↓bLS a2, ↓bLI b0, ↓bLI b1, ↓bLS b2, ↓bX k2, ↓bX k3, ↓bX e4, ↓bX w1, ↓bA3, ↓bA4, ↓bT2, ↓bI0, ↓bI1, ↓bI2, ↓bI3, ↓bS2, ↓bG0, ↓bG1, ↓bS, ↓bB, ↓if_pos q1]
  simp only [↓ifNT, ↓bLI d0, ↓bLI d1, ↓bLI d2, ↓bLI d3, ↓bLI f0, ↓bLI f1, ↓bLI f2, ↓bLI f3, ↓if_neg (of_eq_false hbq)]
  simp only [↓bLI h0, ↓bLI h1, ↓bLS h2, ↓bLI i0, ↓bLI i1, ↓bLS i2, ↓bX e6, ↓bB, ↓if_neg (of_eq_false hz2)]
  simp only [↓bLI g0, ↓bLI g1, ↓bLI g2, ↓bLI j0, ↓bLI j1, ↓bLI j2, ↓bLI v0, ↓bLI v1, ↓bLI v2, ↓ifDn x1', ↓ifDn x2', ↓if_pos q2, x3'']
  exact hM'

theorem p12 {W H x3 : Int} {x4 x5 x6 x9 : Nat} {p4 p5 p6 : Option Addr} {c4 c5 c6 : Nat} {la lb lc : List Px} (hx3 : 0 ≤ x3 ∧ x3 ≤ 65535) (ha : PFit W H la) (hb : PFit W H lb) (hc : PFit W H lc) (hn : la.length = lb.length) (hn2 : lb.length = lc.length) {M : AMem}
    (a : IsPic M x4 W H p4 c4 la) (b : IsPic M x5 W H p5 c5 lb) (c : IsPic M x6 W H p6 c6 lc) (s : Rd M x9 (smC (smL la lb))) :
    ∃ M', P4_12 LL x3 x4 x5 x6 x9 true M = some (.bool true, M') := by
  obtain ⟨M1, M2, M3, k1, k2, k3, k4, k5, k6, k7, k8, k9, k10, k11, k12⟩ := two_of [.int .i64 0, .int .i64 0, .int .i64 0, .int .i64 0] b a
  obtain ⟨M4, e4, s4⟩ := of_fit (c := c5) (d := c4) hb ha k6.px k7.px
  obtain ⟨M5, w1, w2, w3, w4⟩ := (k9.same s4 (by simp)).wr (o := 0) (vs := smC (smL lb la)) (by simp [smC])
  have w2' : Cells M5 M.length (smC (smL lb la)) := by simpa [wrL, smC] using w2
  have t5 : Same M M5 [] := ((k8.trans s4).trans w3).mono' (by simp <;> omega)
  have lM3 := k9.lt
  have q1 : chkOk [(2, 1), (8, 1), (8, 3), (8, 4)] [(8, M.length), (2, x4)] [(4, (M3, M4)), (3, (M2, M3)), (1, (M1, M2))] = true := by
    have u1 := ver_same k11 (show x4 < M1.length by have := a.lt; omega) (by simp)
    have u2 := ver_same k11 (show M.length < M1.length by omega) (by simp)
    have u3 := ver_same k12 (show M.length < M2.length by have := k11.le; omega) (by simp)
    have u4 := ver_same s4 lM3 (by simp)
    simp [chkOk, List.lookup, u1, u2, u3, u4]
  obtain ⟨N1, N2, N3, j1, j2, j3, j4, j5, j6, j7, j8, j9, j10, j11, j12⟩ := two_of [.int .i64 0, .int .i64 0, .int .i64 0, .int .i64 0] (b.st t5) (c.st t5)
  obtain ⟨N4, e5, r4⟩ := of_fit (c := c5) (d := c6) hb hc j6.px j7.px
  obtain ⟨N5, y1, y2, y3, y4⟩ := (j9.same r4 (by simp)).wr (o := 0) (vs := smC (smL lb lc)) (by simp [smC])
  have y2' : Cells N5 M5.length (smC (smL lb lc)) := by simpa [wrL, smC] using y2
  have t10 : Same M5 N5 [] := ((j8.trans r4).trans y3).mono' (by simp <;> omega)
  have lN3 := j9.lt
  have q2 : chkOk [(2, 1), (8, 1), (8, 3), (8, 4)] [(8, M5.length), (2, x6)] [(4, (N3, N4)), (3, (N2, N3)), (1, (N1, N2))] = true := by
    have u1 := ver_same j11 (show x6 < N1.length by have := (c.st t5).lt; omega) (by simp)
    have u2 := ver_same j11 (show M5.length < N1.length by omega) (by simp)
    have u3 := ver_same j12 (show M5.length < N2.length by have := j11.le; omega) (by simp)
    have u4 := ver_same r4 lN3 (by simp)
    simp [chkOk, List.lookup, u1, u2, u3, u4]
  have tt : Same M N5 [] := (t5.trans t10).mono (by simp)
  obtain ⟨M', hM'⟩ := p16 hx3 ha hb hc hn hn2 (a.st tt) (b.st tt) (c.st tt) (s.same tt (by simp)) (w2'.rd.same t10 (by simp)) y2'.rd
  refine ⟨M', ?_⟩
  obtain ⟨a0, a1, a2⟩ := picV_ld k4.hd
  obtain ⟨b0, b1, b2⟩ := picV_ld k5.hd
  obtain ⟨d0, d1, d2⟩ := picV_ld j4.hd
  obtain ⟨f0, f1, f2⟩ := picV_ld j5.hd
  unfold picV at k2 k3 j2 j3 e4 e5
  unfold smC at w1 y1
  rw [P4_12_eq, ← k1]
  simp only [↓bLI a0, ↓bLI a1, ↓bLS a2, ↓bLI b0, ↓bLI b1, ↓bLS b2, ↓bX k2, ↓bX k3, ↓bX e4, ↓bX w1, ↓bA3, ↓bA4, ↓bT2, ↓bI0, ↓bI1, ↓bI2, ↓bI3, ↓bS2, ↓bG0, ↓bG1, ↓bS, ↓bB, ↓if_pos q1]
  rw [← j1]
  simp only [↓bLI d0, ↓bLI d1, ↓bLS d2, ↓bLI f0, ↓bLI f1, ↓bLS f2, ↓bX j2, ↓bX j3, ↓bX e5, ↓bX y1, ↓bA3, ↓bA4, ↓bT2, ↓bI0, ↓bI1, ↓bI2, ↓bI3, ↓bS2, ↓bG0, ↓bG1, ↓bS, ↓bB, ↓if_pos q2]
  exact hM'

theorem dthree (M : AMem) (Wa Ha Wb Hb Wc Hc x3 : Int) (p q r : Option Addr) (ca cb cc : Nat) (la lb lc : List Px) (hx3 : 0 ≤ x3 ∧ x3 ≤ 65535) (hla : la.length ≤ 9223372036854775807) (hlb : lb.length ≤ 9223372036854775807) (hlc : lc.length ≤ 9223372036854775807)
    (hp : RdL M encP p la.length la) (hq : RdL M encP q lb.length lb) (hr : RdL M encP r lc.length lc) :
    ∃ M', LL.call 4 [picV Wa Ha p la.length ca, picV Wb Hb q lb.length cb, picV Wc Hc r lc.length cc, .int .u16 x3] M = some (.bool true, M') := by
  rw [L_call4]
  unfold picV
  rw [E4]
  obtain ⟨_, aw⟩ := awake49
  have g0 := cells_new M [.int .i64 Wa, .int .i64 Ha, .slice p la.length ca] 0
  have s0 := same_app M [AObj.cells [.int .i64 Wa, .int .i64 Ha, .slice p la.length ca] ⟨false, 0⟩]
  generalize hM0 : M ++ [AObj.cells [.int .i64 Wa, .int .i64 Ha, .slice p la.length ca] ⟨false, 0⟩] = M0 at g0 s0
  have g1 := cells_new M0 [.int .i64 Wb, .int .i64 Hb, .slice q lb.length cb] 0
  have s1 := same_app M0 [AObj.cells [.int .i64 Wb, .int .i64 Hb, .slice q lb.length cb] ⟨false, 0⟩]
  generalize hM1 : M0 ++ [AObj.cells [.int .i64 Wb, .int .i64 Hb, .slice q lb.length cb] ⟨false, 0⟩] = M1 at g1 s1
  have g2 := cells_new M1 [.int .i64 Wc, .int .i64 Hc, .slice r lc.length cc] 0
  have s2 := same_app M1 [AObj.cells [.int .i64 Wc, .int .i64 Hc, .slice r lc.length cc] ⟨false, 0⟩]
  generalize hM2 : M1 ++ [AObj.cells [.int .i64 Wc, .int .i64 Hc, .slice r lc.length cc] ⟨false, 0⟩] = M2 at g2 s2
  have t2 : Same M M2 [] := ((s0.trans s1).trans s2).mono (by simp)
  have a : IsPic M2 M.length Wa Ha p ca la := ⟨((g0.same s1 (by simp)).same s2 (by simp)).rd, hp.same t2 (by simp)⟩
  have b : IsPic M2 M0.length Wb Hb q cb lb := ⟨(g1.same s2 (by simp)).rd, hq.same t2 (by simp)⟩
  have c : IsPic M2 M1.length Wc Hc r cc lc := ⟨g2.rd, hr.same t2 (by simp)⟩
  obtain ⟨a0, a1, a2⟩ := picV_ld a.hd
  obtain ⟨b0, b1, b2⟩ := picV_ld b.hd
  by_cases h30 : (la.length : Int) > 30
  · refine ⟨M2, ?_⟩
    simp only [a2, sliceOf_slice, Option.bind_some, ofN, h30, decide_true, if_true, aw, boolOf_bool]
  obtain ⟨M3, e3, s3⟩ := fit49_spec (Wa := Wa) (Ha := Ha) (Wb := Wb) (Hb := Hb) (c := ca) (d := cb) hla hlb a.px b.px
  unfold picV at e3
  by_cases hf : Fit2 Wa Ha Wb Hb la lb
  · obtain ⟨d0, d1, d2⟩ := picV_ld (b.st s3).hd
    obtain ⟨f0, f1, f2⟩ := picV_ld (c.st s3).hd
    obtain ⟨M4, e4, s4⟩ := fit49_spec (Wa := Wb) (Ha := Hb) (Wb := Wc) (Hb := Hc) (c := cb) (d := cc) hlb hlc (b.st s3).px (c.st s3).px
    unfold picV at e4
    by_cases hg : Fit2 Wb Hb Wc Hc lb lc
    · have hn := hf.len
      have hn2 := hg.len
      obtain ⟨⟨rfl, rfl⟩, ha, hb⟩ := hf
      obtain ⟨⟨rfl, rfl⟩, _, hc⟩ := hg
      have t4 : Same M2 M4 [] := (s3.trans s4).mono (by simp)
      obtain ⟨N1, N2, N3, k1, k2, k3, k4, k5, k6, k7, k8, k9, k10, k11, k12⟩ := two_of [.int .i64 0, .int .i64 0, .int .i64 0, .int .i64 0] (a.st t4) (b.st t4)
      obtain ⟨N4, e5, s5⟩ := of_fit (c := ca) (d := cb) ha hb k6.px k7.px
      obtain ⟨N5, w1, w2, w3, w4⟩ := (k9.same s5 (by simp)).wr (o := 0) (vs := smC (smL la lb)) (by simp [smC])
      have w2' : Cells N5 M4.length (smC (smL la lb)) := by simpa [wrL, smC] using w2
      have t5 : Same M4 N5 [] := ((k8.trans s5).trans w3).mono' (by simp <;> omega)
      have lN3 := k9.lt
      have q1 : chkOk [(2, 1), (8, 1), (8, 3), (8, 4)] [(8, M4.length), (2, M0.length)] [(4, (N3, N4)), (3, (N2, N3)), (1, (N1, N2))] = true := by
        have u1 := ver_same k11 (show M0.length < N1.length by have := (b.st t4).lt; omega) (by simp)
        have u2 := ver_same k11 (show M4.length < N1.length by omega) (by simp)
        have u3 := ver_same k12 (show M4.length < N2.length by have := k11.le; omega) (by simp)
        have u4 := ver_same s5 lN3 (by simp)
        simp [chkOk, List.lookup, u1, u2, u3, u4]
      have tt : Same M2 N5 [] := (t4.trans t5).mono (by simp)
      obtain ⟨M', hM'⟩ := p12 hx3 ha hb hc hn hn2 (a.st tt) (b.st tt) (c.st tt) w2'.rd
      refine ⟨M', ?_⟩
      obtain ⟨h0, h1, h2⟩ := picV_ld k4.hd
      obtain ⟨i0, i1, i2⟩ := picV_ld k5.hd
      unfold picV at k2 k3 e5
      unfold smC at w1
      simp only [a0, a1, a2, b0, b1, b2, intOf_int, sliceOf_slice, Option.bind_some, ofN, h30, decide_false, Bool.false_eq_true, if_false, e3, fit2_of ha hb, boolOf_bool, decide_true, Bool.not_true, d0, d1, d2, f0, f1, f2, e4, fit2_of hb hc]
      rw [← k1]
      simp only [↓bLI h0, ↓bLI h1, ↓bLS h2, ↓bLI i0, ↓bLI i1, ↓bLS i2, ↓bX k2, ↓bX k3, ↓bX e5, ↓bX w1, ↓bA3, ↓bA4, ↓bT2, ↓bI0, ↓bI1, ↓bI2, ↓bI3, ↓bS2, ↓bG0, ↓bG1, ↓bS, ↓bB, ↓if_pos q1]
      exact hM'
    · refine ⟨M4, ?_⟩
      simp only [a0, a1, a2, b0, b1, b2, intOf_int, sliceOf_slice, Option.bind_some, ofN, h30, decide_false, Bool.false_eq_true, if_false, e3, hf, boolOf_bool, decide_true, Bool.not_true, d0, d1, d2, f0, f1, f2, e4, hg, Bool.not_false, if_true, aw]
  · refine ⟨M3, ?_⟩
    simp only [a0, a1, a2, b0, b1, b2, intOf_int, sliceOf_slice, Option.bind_some, ofN, h30, decide_false, Bool.false_eq_true, if_false, e3, hf, boolOf_bool, Bool.not_false, if_true, aw]

end Go.Proofs.Ytkjgmcjdblhkeaa
