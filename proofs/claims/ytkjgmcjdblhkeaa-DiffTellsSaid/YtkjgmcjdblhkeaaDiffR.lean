/- The document's sums, places, and pictures (skylightref49). -/
import Derived.Test.YtkjgmcjdblhkeaaDiffC
import Derived.Test.YtkjgmcjdblhkeaaEqRef49
import Derived.Test.YtkjgmcjdblhkeaaAxD
set_option linter.unusedVariables false
set_option linter.unusedSimpArgs false
namespace Go.Proofs.Ytkjgmcjdblhkeaa
open Go Go.Ax

def chn (x : Px) (c : Nat) : Int := match c with
  | 0 => x.r
  | 1 => x.g
  | _ => x.b

theorem px_ldc {M : AMem} {a : Nat} {l : List Px} (h : Rd M a (l.flatMap encP)) {i c : Nat} {x : Px} (hi : l[i]? = some x) (hc : c < 3) : M.ld a (i * 3 + c) = some (.int .i64 (chn x c)) := by
  rw [h.ld, flat_get encP_length l i c x hi hc]
  match c, hc with
  | 0, _ => rfl
  | 1, _ => rfl
  | 2, _ => rfl

theorem chn_fit {x : Px} (h : x.fit) (c : Nat) : 0 ≤ chn x c ∧ chn x c ≤ 255 := by
  unfold Px.fit at h
  unfold chn
  split <;> omega

/-- A picture that is being made. -/
structure Out (M0 M : AMem) (b : Nat) (W H : Int) (L : List Px) : Prop where
  ex : ∃ p c, Cells M b [.int .i64 W, .int .i64 H, .slice p L.length c] ∧ Slc M 3 p L.length c (L.flatMap encP) ∧ (∀ x ∈ blk p, M0.length ≤ x ∧ x ≠ b)
  same : Same M0 M []
  hb : M0.length ≤ b

theorem Out.st {M0 M M' : AMem} {b : Nat} {W H : Int} {L : List Px} (h : Out M0 M b W H L) (s : Same M M' []) : Out M0 M' b W H L := by
  obtain ⟨p, c, h1, h2, h3⟩ := h.ex
  exact ⟨⟨p, c, h1.same s (by simp), h2.same s (by simp), h3⟩, (h.same.trans s).mono (by simp), h.hb⟩

theorem out_app {M0 M : AMem} {b : Nat} {W H : Int} {L : List Px} (h : Out M0 M b W H L) (hl : L.length ≤ 65536) (y : Px) :
    ∃ p c M9 M10, M.ld b 2 = some (.slice p L.length c) ∧ rowOf (M ++ [AObj.cells [.int .i64 y.r, .int .i64 y.g, .int .i64 y.b] ⟨false, 0⟩]) 3 (.slice (some ⟨List.length M, 0, none⟩) 1 3) = some (encP y) ∧
      (∀ K : Option Addr → Nat → Nat → AMem → Res, appendK 3 24 p L.length c 1 (encP y) (M ++ [AObj.cells [.int .i64 y.r, .int .i64 y.g, .int .i64 y.b] ⟨false, 0⟩]) K = K (some ⟨M.length + 1, 0, none⟩) (L.length + 1) 3 M9) ∧
      AMem.wr M9 b 2 [.slice (some ⟨M.length + 1, 0, none⟩) (L.length + 1) 3] = some M10 ∧ Out M0 M10 b W H (L ++ [y]) := by
  obtain ⟨p, c, h1, h2, h3⟩ := h.ex
  have hb := h.hb
  obtain ⟨M9, k1, k2, k3⟩ := grn_row (bytes := 24) (new := encP y) (m := 1) (v := 0) h2 rfl (by omega) (by omega)
  have hlt := h2.lt
  have hrow := rowOf_new M 3 1 (encP y) 0 3 rfl
  have hMl := h1.lt
  have h1' := h1.same k3.same (fun hx => (h3 b hx).2 rfl)
  obtain ⟨M10, w1, w2, w3, w4⟩ := h1'.wr (o := 2) (vs := [.slice (some ⟨M.length + 1, 0, none⟩) (L.length + 1) 3]) (by simp)
  have w2' : Cells M10 b [.int .i64 W, .int .i64 H, .slice (some ⟨M.length + 1, 0, none⟩) (L ++ [y]).length 3] := by simpa [wrL] using w2
  refine ⟨p, c, M9, M10, h1.ld 2, hrow, k1, w1, ⟨_, _, w2', ?_, ?_⟩, ?_, hb⟩
  · have := k2.same w3 (by simp; omega)
    simpa using this
  · have := h.same.le
    simp; omega
  · refine ((h.same.trans k3.same).trans w3).mono' fun x hx hlt' => ?_
    simp only [List.nil_append, List.mem_append, List.mem_singleton] at hx
    rcases hx with hx | hx
    · have := (h3 x hx).1; omega
    · omega

theorem Out.pic {M0 M : AMem} {b : Nat} {W H : Int} {L : List Px} (h : Out M0 M b W H L) (hl : 1 ≤ L.length) : ∃ p c, Cells M b [.int .i64 W, .int .i64 H, .slice p L.length c] ∧ RdL M encP p L.length L ∧ (∀ x ∈ blk p, M0.length ≤ x ∧ x ≠ b) := by
  obtain ⟨p, c, h1, h2, h3⟩ := h.ex
  obtain ⟨a, rfl, ha⟩ := h2.pos (by omega)
  exact ⟨_, c, h1, ⟨rfl, fun _ => ⟨a, rfl, ha.rd⟩⟩, h3⟩

/-! ### sums -/

theorem rchan {x2 x3 x4 x6 i c n1 n2 : Nat} {a b : Nat} {cp cq : Nat} {la lb : List Px} {x y : Px} {n m s q : Int} {M : AMem} (hc : c < 3)
    (h2 : M.ld x2 2 = some (.slice (some ⟨a, 0, none⟩) n1 cp)) (h3 : M.ld x3 2 = some (.slice (some ⟨b, 0, none⟩) n2 cq)) (ha : Rd M a (la.flatMap encP)) (hb : Rd M b (lb.flatMap encP))
    (hx : la[i]? = some x) (hy : lb[i]? = some y) (hi1 : i < n1) (hi2 : i < n2) (fx : x.fit) (fy : y.fit) (h6 : Cells M x6 [.int .i64 n, .int .i64 m, .int .i64 s, .int .i64 q])
    (bm : 0 ≤ m) (bs : 0 ≤ s ∧ s ≤ 1099511627776) (bq : 0 ≤ q ∧ q ≤ 1099511627776) :
    ∃ M', P8_34 LL x2 x3 x4 x6 (i : Int) (c : Int) M = P8_34 LL x2 x3 x4 x6 (i : Int) ((c + 1 : Nat) : Int) M' ∧
      Cells M' x6 [.int .i64 n, .int .i64 (max m (far (chn x c) (chn y c))), .int .i64 (s + far (chn x c) (chn y c)), .int .i64 (q + far (chn x c) (chn y c) * far (chn x c) (chn y c))] ∧ Same M M' [x6] ∧ M'.length = M.length := by
  have eu := px_ldc ha hx hc
  have ew := px_ldc hb hy hc
  have bu := chn_fit fx c
  have bw := chn_fit fy c
  generalize chn x c = u at eu bu ⊢
  generalize chn y c = w at ew bw ⊢
  have f0 := far_nonneg u w
  have f1 := far_255 bu bw
  have hd : IntKind.wrap .i64 (u - w) = u - w := w64 (by omega)
  have hd2 : IntKind.wrap .i64 (w - u) = w - u := w64 (by omega)
  have ef : (if w - u > u - w then w - u else u - w) = far u w := by unfold far; split <;> omega
  have em : (if far u w > m then far u w else m) = max m (far u w) := by split <;> omega
  have fs : far u w * far u w ≤ 65025 := by
    have := Int.mul_le_mul f1 f1 f0 (by omega); omega
  have fs0 : 0 ≤ far u w * far u w := Int.mul_nonneg f0 f0
  obtain ⟨M1, a1, a2, a3, a4⟩ := h6.wr (o := 1) (vs := [.int .i64 (max m (far u w))]) (by simp)
  obtain ⟨M2, b1, b2, b3, b4⟩ := a2.wr (o := 2) (vs := [.int .i64 (s + far u w)]) (by simp [wrL])
  obtain ⟨M3, c1, c2, c3, c4⟩ := b2.wr (o := 3) (vs := [.int .i64 (q + far u w * far u w)]) (by simp [wrL])
  have d1 : AMem.ld M x6 1 = some (.int .i64 m) := h6.ld 1
  have d2 : AMem.ld M1 x6 2 = some (.int .i64 s) := a2.ld 2
  have d3 : AMem.ld M2 x6 3 = some (.int .i64 q) := b2.ld 3
  refine ⟨M3, ?_, by simpa [wrL] using c2, ((a3.trans b3).trans c3).mono (by simp), by omega⟩
  rw [P8_34_eq LL L_loop]
  have hlt : (c : Int) < 3 := by omega
  have h0 : (0 : Int) ≤ (c : Int) := by omega
  have i0 : (0 : Int) ≤ (i : Int) := by omega
  have i1 : (i : Int) < Int.ofNat n1 := by rw [ofN]; omega
  have i2 : (i : Int) < Int.ofNat n2 := by rw [ofN]; omega
  have wa : IntKind.wrap .i64 (s + far u w) = s + far u w := w64 (by omega)
  have wq : IntKind.wrap .i64 (far u w * far u w) = far u w * far u w := w64 (by omega)
  have wq2 : IntKind.wrap .i64 (q + far u w * far u w) = q + far u w * far u w := w64 (by omega)
  have wc : IntKind.wrap .i64 ((c : Int) + 1) = ((c + 1 : Nat) : Int) := by rw [w64 (by omega)]; rfl
  simp only [hlt, h0, i0, i1, i2, and_self, decide_true, if_true, Int.toNat_natCast, Nat.mul_one, Nat.zero_add, h2, h3, sliceOf_slice, Option.bind_some, eu, ew, intOf_int, d1, hd, hd2, ef, em, a1, d2, wa, b1, d3, wq, wq2, c1, P8_50_eq, wc]

theorem rof_loop {W H : Int} {x2 x3 x4 x6 : Nat} {p q : Option Addr} {cp cq : Nat} {la lb : List Px} (hn : la.length = lb.length) (hl : la.length ≤ 65536) (fa : ∀ x ∈ la, x.fit) (fb : ∀ x ∈ lb, x.fit) (d4 : x4 ≠ x6) :
    ∀ (d i : Nat) (M : AMem), i + d = la.length → IsPic M x2 W H p cp la → IsPic M x3 W H q cq lb → (x2 ≠ x6 ∧ x3 ≠ x6 ∧ (∀ b ∈ blk p, b ≠ x6) ∧ (∀ b ∈ blk q, b ≠ x6)) → Cells M x6 (smC (smL (la.take i) (lb.take i))) → Cells M x4 [.int .i64 0, .int .i64 0, .int .i64 0, .int .i64 0] →
      ∃ M', P8_16 LL x2 x3 x4 x6 (i : Int) M = some (.tuple #[.agg #[.int .i64 (smL la lb).n, .int .i64 (smL la lb).m, .int .i64 (smL la lb).a, .int .i64 (smL la lb).q], .bool true], M') ∧ Same M M' [x6, x4] := by
  intro d
  induction d with
  | zero =>
    intro i M hi ha hb hd h6 h4
    obtain rfl : i = la.length := by omega
    rw [List.take_length, hn, List.take_length] at h6
    obtain ⟨_, _, a2⟩ := picV_ld ha.hd
    have e6 : M.ld x6 0 = _ ∧ M.ld x6 1 = _ ∧ M.ld x6 2 = _ ∧ M.ld x6 3 = _ := ⟨h6.ld 0, h6.ld 1, h6.ld 2, h6.ld 3⟩
    obtain ⟨M1, w1, w2, w3, w4⟩ := h4.wr (o := 0) (vs := smC (smL la lb)) (by simp [smC])
    have w2' : Cells M1 x4 (smC (smL la lb)) := by simpa [wrL, smC] using w2
    unfold smC at w1 w2' e6
    simp only [get0, get1, get2, get3] at e6
    have e4 : M1.ld x4 0 = _ ∧ M1.ld x4 1 = _ ∧ M1.ld x4 2 = _ ∧ M1.ld x4 3 = _ := ⟨w2'.ld 0, w2'.ld 1, w2'.ld 2, w2'.ld 3⟩
    simp only [get0, get1, get2, get3] at e4
    refine ⟨M1, ?_, w3.mono (by simp)⟩
    rw [P8_16_eq LL L_loop]
    have : ¬ ((la.length : Int) < Int.ofNat la.length) := by rw [ofN]; omega
    simp only [a2, sliceOf_slice, Option.bind_some, this, decide_false, Bool.false_eq_true, if_false, P8_52_eq, e6.1, e6.2.1, e6.2.2.1, e6.2.2.2, intOf_int, w1, e4.1, e4.2.1, e4.2.2.1, e4.2.2.2]
  | succ d ih =>
    intro i M hi ha hb hd h6 h4
    have hia : i < la.length := by omega
    have hib : i < lb.length := by omega
    obtain ⟨_, _, a2⟩ := picV_ld ha.hd
    obtain ⟨_, _, b2⟩ := picV_ld hb.hd
    obtain ⟨a, rfl, ra⟩ := ha.px.2 (by omega)
    obtain ⟨b, rfl, rb⟩ := hb.px.2 (by omega)
    obtain ⟨x, hx⟩ : ∃ x, la[i]? = some x := ⟨_, List.getElem?_eq_getElem hia⟩
    obtain ⟨y, hy⟩ : ∃ y, lb[i]? = some y := ⟨_, List.getElem?_eq_getElem hib⟩
    have fx := fa x (List.mem_of_getElem? hx)
    have fy := fb y (List.mem_of_getElem? hy)
    obtain ⟨e0, e1, e2⟩ := px_ld ra hx
    obtain ⟨f0, f1, f2⟩ := px_ld rb hy
    have hab := a_le (la.take i) (lb.take i) (fun z hz => fa z (List.mem_of_mem_take hz)) (fun z hz => fb z (List.mem_of_mem_take hz))
    have hq := q_le (la.take i) (lb.take i) (fun z hz => fa z (List.mem_of_mem_take hz)) (fun z hz => fb z (List.mem_of_mem_take hz))
    have htl : (la.take i).length ≤ 65536 := by simp; omega
    have na := aL_nonneg (la.take i) (lb.take i)
    have nq := qL_nonneg (la.take i) (lb.take i)
    have nm := mL_nonneg (la.take i) (lb.take i)
    have nn := nL_nonneg (la.take i) (lb.take i)
    have key : ∃ N, (∀ K : AMem → Res, (if (!(decide (x = y))) = true then (Option.bind (intOf? .i64 (AMem.ld M x6 0)) fun x_12 => Option.bind (AMem.wr M x6 0 [.int .i64 (IntKind.wrap .i64 (x_12 + 1))]) fun M_13 => K M_13) else K M) = K N) ∧
        Cells N x6 [.int .i64 (nL (la.take i) (lb.take i) + pn x y), .int .i64 (mL (la.take i) (lb.take i)), .int .i64 (aL (la.take i) (lb.take i)), .int .i64 (qL (la.take i) (lb.take i))] ∧ Same M N [x6] := by
      by_cases e : x = y
      · refine ⟨M, fun K => by simp [e], ?_, .refl _ _⟩
        simpa [pn, e, smC, smL] using h6
      · obtain ⟨N, w1, w2, w3, w4⟩ := h6.wr (o := 0) (vs := [.int .i64 (nL (la.take i) (lb.take i) + 1)]) (by simp [smC])
        have r0 : M.ld x6 0 = some (.int .i64 (nL (la.take i) (lb.take i))) := h6.ld 0
        refine ⟨N, fun K => ?_, by simpa [pn, e, smC, smL, wrL] using w2, w3⟩
        have wn : IntKind.wrap .i64 (nL (la.take i) (lb.take i) + 1) = nL (la.take i) (lb.take i) + 1 := w64 (by omega)
        simp only [e, decide_false, Bool.not_false, if_true, r0, intOf_int, Option.bind_some, wn, w1]
    obtain ⟨N, k1, k2, k3⟩ := key
    have na2 := a2
    have sN : ∀ {c : Nat} {vs : List Value}, Rd M c vs → c ≠ x6 → Rd N c vs := fun h hne => h.same k3 (by simp; exact hne)
    have n1 := far_nonneg x.r y.r
    have n2 := far_nonneg x.g y.g
    have g1 := far_255 fx.1 fy.1
    have g2 := far_255 fx.2.1 fy.2.1
    have sq1 : far x.r y.r * far x.r y.r ≤ 65025 := by have := Int.mul_le_mul g1 g1 n1 (by omega); omega
    have sq2 : far x.g y.g * far x.g y.g ≤ 65025 := by have := Int.mul_le_mul g2 g2 n2 (by omega); omega
    have sq10 := Int.mul_nonneg n1 n1
    have sq20 := Int.mul_nonneg n2 n2
    have dd := hd
    simp only [blk_some, List.mem_singleton, forall_eq] at dd
    obtain ⟨N1, p1, p2, p3, p4⟩ := rchan (x4 := x4) (c := 0) (by omega) ((sN ha.hd dd.1).ld 2) ((sN hb.hd dd.2.1).ld 2) (sN ra dd.2.2.1) (sN rb dd.2.2.2) hx hy hia hib fx fy k2 nm (by omega) (by omega)
    have s1 : ∀ {c : Nat} {vs : List Value}, Rd M c vs → c ≠ x6 → Rd N1 c vs := fun h hne => (sN h hne).same p3 (by simp; exact hne)
    simp only [chn] at p2
    obtain ⟨N2, p5, p6, p7, p8⟩ := rchan (x4 := x4) (c := 1) (by omega) ((s1 ha.hd dd.1).ld 2) ((s1 hb.hd dd.2.1).ld 2) (s1 ra dd.2.2.1) (s1 rb dd.2.2.2) hx hy hia hib fx fy p2 (by omega) (by omega) (by omega)
    have s2 : ∀ {c : Nat} {vs : List Value}, Rd M c vs → c ≠ x6 → Rd N2 c vs := fun h hne => (s1 h hne).same p7 (by simp; exact hne)
    simp only [chn] at p6
    obtain ⟨N3, p9, p10, p11, p12⟩ := rchan (x4 := x4) (c := 2) (by omega) ((s2 ha.hd dd.1).ld 2) ((s2 hb.hd dd.2.1).ld 2) (s2 ra dd.2.2.1) (s2 rb dd.2.2.2) hx hy hia hib fx fy p6 (by omega) (by omega) (by omega)
    simp only [chn] at p10
    have hall : Same M N3 [x6] := (((k3.trans p3).trans p7).trans p11).mono (by simp)
    have tk : smL (la.take (i + 1)) (lb.take (i + 1)) = ⟨nL (la.take i) (lb.take i) + pn x y, max (mL (la.take i) (lb.take i)) (pm x y), aL (la.take i) (lb.take i) + pa x y, qL (la.take i) (lb.take i) + pq x y⟩ := by
      have ht : (la.take i).length = (lb.take i).length := by simp [hn]
      rw [take_snoc hx, take_snoc hy, smL, nL_snoc x y _ _ ht, mL_snoc x y _ _ ht, aL_snoc x y _ _ ht, qL_snoc x y _ _ ht]
    have h6' : Cells N3 x6 (smC (smL (la.take (i + 1)) (lb.take (i + 1)))) := by
      rw [tk]
      unfold smC
      simp only [pm, pa, pq]
      have m1 : max (mL (la.take i) (lb.take i)) (max (max (far x.r y.r) (far x.g y.g)) (far x.b y.b)) = max (max (max (mL (la.take i) (lb.take i)) (far x.r y.r)) (far x.g y.g)) (far x.b y.b) := by omega
      rw [m1, ← Int.add_assoc, ← Int.add_assoc, ← Int.add_assoc, ← Int.add_assoc]
      exact p10
    obtain ⟨M', r1, r2⟩ := ih (i + 1) N3 (by omega) ⟨ha.hd.same hall (by simp; exact dd.1), ha.px.same hall (by simp; exact dd.2.2.1)⟩ ⟨hb.hd.same hall (by simp; exact dd.2.1), hb.px.same hall (by simp; exact dd.2.2.2)⟩ hd h6' (h4.same hall (by simp; exact d4))
    refine ⟨M', ?_, (hall.trans r2).mono (by simp)⟩
    rw [P8_16_eq LL L_loop]
    have hlt1 : (i : Int) < Int.ofNat la.length := by rw [ofN]; omega
    have hlt2 : (i : Int) < Int.ofNat lb.length := by rw [ofN]; omega
    have hz : (0 : Int) ≤ (i : Int) := by omega
    have hw : IntKind.wrap .i64 ((i : Int) + 1) = ((i + 1 : Nat) : Int) := by rw [w64 (by omega)]; rfl
    have t1 := (p1.trans p5).trans p9
    rw [show ((0 : Nat) : Int) = 0 from rfl] at t1
    simp only [a2, b2, sliceOf_slice, Option.bind_some, hlt1, hlt2, hz, and_self, decide_true, if_true, Nat.zero_add, Int.toNat_natCast, e0, e1, e2, f0, f1, f2, intOf_int, px_beq]
    rw [k1 fun M_13 => P8_31 LL x2 x3 x4 x6 (i : Int) M_13]
    rw [P8_31_eq, t1, P8_34_eq LL L_loop]
    simp only [show ¬ (((2 + 1 : Nat) : Int) < 3) by omega, decide_false, Bool.false_eq_true, if_false, P8_51_eq, hw]
    exact r1

theorem rof_spec {Wa Ha Wb Hb : Int} {p q : Option Addr} {c d : Nat} {la lb : List Px} (hla : la.length ≤ 9223372036854775807) (hlb : lb.length ≤ 9223372036854775807) {M : AMem} (hp : RdL M encP p la.length la) (hq : RdL M encP q lb.length lb) :
    ∃ M', LL.call 8 [picV Wa Ha p la.length c, picV Wb Hb q lb.length d] M = some (.tuple #[.agg #[.int .i64 (smR (decide (Fit2 Wa Ha Wb Hb la lb)) la lb).n, .int .i64 (smR (decide (Fit2 Wa Ha Wb Hb la lb)) la lb).m, .int .i64 (smR (decide (Fit2 Wa Ha Wb Hb la lb)) la lb).a, .int .i64 (smR (decide (Fit2 Wa Ha Wb Hb la lb)) la lb).q], .bool (decide (Fit2 Wa Ha Wb Hb la lb))], M') ∧ Same M M' [] := by
  rw [L_call8]
  unfold picV
  rw [E8]
  have g0 := cells_new M [.int .i64 Wa, .int .i64 Ha, .slice p la.length c] 0
  have s0 := same_app M [AObj.cells [.int .i64 Wa, .int .i64 Ha, .slice p la.length c] ⟨false, 0⟩]
  have n0 : (M ++ [AObj.cells [.int .i64 Wa, .int .i64 Ha, .slice p la.length c] ⟨false, 0⟩]).length = M.length + 1 := by simp
  generalize hM0 : M ++ [AObj.cells [.int .i64 Wa, .int .i64 Ha, .slice p la.length c] ⟨false, 0⟩] = M0 at g0 s0 n0
  have g1 := cells_new M0 [.int .i64 Wb, .int .i64 Hb, .slice q lb.length d] 0
  have s1 := same_app M0 [AObj.cells [.int .i64 Wb, .int .i64 Hb, .slice q lb.length d] ⟨false, 0⟩]
  have n1 : (M0 ++ [AObj.cells [.int .i64 Wb, .int .i64 Hb, .slice q lb.length d] ⟨false, 0⟩]).length = M0.length + 1 := by simp
  generalize hM1 : M0 ++ [AObj.cells [.int .i64 Wb, .int .i64 Hb, .slice q lb.length d] ⟨false, 0⟩] = M1 at g1 s1 n1
  have g2 := cells_new M1 [.int .i64 0, .int .i64 0, .int .i64 0, .int .i64 0] 0
  have s2 := same_app M1 [AObj.cells [.int .i64 0, .int .i64 0, .int .i64 0, .int .i64 0] ⟨false, 0⟩]
  have n2 : (M1 ++ [AObj.cells [.int .i64 0, .int .i64 0, .int .i64 0, .int .i64 0] ⟨false, 0⟩]).length = M1.length + 1 := by simp
  generalize hM2 : M1 ++ [AObj.cells [.int .i64 0, .int .i64 0, .int .i64 0, .int .i64 0] ⟨false, 0⟩] = M2 at g2 s2 n2
  obtain ⟨M3, w1, w2, w3, w4⟩ := wr_new M2 [.int .i64 0, .int .i64 0, .int .i64 0, .int .i64 0] [.int .i64 0, .int .i64 0, .int .i64 0, .int .i64 0] 0 rfl
  have hs3 : Same M M3 [] := (((s0.trans s1).trans s2).trans w3).mono (by simp)
  have a : IsPic M3 M.length Wa Ha p c la := ⟨(((g0.same s1 (by simp)).same s2 (by simp)).same w3 (by simp)).rd, hp.same hs3 (by simp)⟩
  have b : IsPic M3 M0.length Wb Hb q d lb := ⟨((g1.same s2 (by simp)).same w3 (by simp)).rd, hq.same hs3 (by simp)⟩
  obtain ⟨a0, a1, a2⟩ := picV_ld a.hd
  obtain ⟨b0, b1, b2⟩ := picV_ld b.hd
  obtain ⟨M4, e4, s4⟩ := fit49_spec (Wa := Wa) (Ha := Ha) (Wb := Wb) (Hb := Hb) (c := c) (d := d) hla hlb a.px b.px
  unfold picV at e4
  have g24 := (g2.same w3 (by simp)).same s4 (by simp)
  have w24 := w2.same s4 (by simp)
  have l4 := s4.le
  by_cases hf : Fit2 Wa Ha Wb Hb la lb
  · have hn := hf.len
    have hle := hf.2.1.len
    have hWW := hf.1.1
    have hHH := hf.1.2
    subst hWW
    subst hHH
    have hpl := hp.lt (by omega)
    have hql := hq.lt (by omega)
    obtain ⟨M', r1, r2⟩ := rof_loop (x4 := M1.length) (x6 := M2.length) hn hle.2 hf.2.1.1 hf.2.2.1 (by omega) la.length 0 M4 (by omega) (a.st s4) (b.st s4) ⟨by omega, by omega, fun z hz => by have := hpl z hz; omega, fun z hz => by have := hql z hz; omega⟩
      (by simpa [smC, smL, nL, mL, aL, qL] using w24) g24
    refine ⟨M', ?_, ((hs3.trans s4).trans r2).mono' (by simp; omega)⟩
    simp only [w1, a0, a1, a2, b0, b1, b2, intOf_int, sliceOf_slice, Option.bind_some, e4, boolOf_bool, hf, decide_true, Bool.not_true, Bool.false_eq_true, if_false, smR, if_true]
    exact r1
  · obtain ⟨M5, y1, y2, y3, y4⟩ := g24.wr (o := 0) (vs := [.int .i64 0, .int .i64 0, .int .i64 0, .int .i64 0]) (by simp)
    have y2' : Cells M5 M1.length [.int .i64 0, .int .i64 0, .int .i64 0, .int .i64 0] := by simpa [wrL] using y2
    have u0 : AMem.ld M4 M2.length 0 = some (.int .i64 0) := w24.ld 0
    have u1 : AMem.ld M4 M2.length 1 = some (.int .i64 0) := w24.ld 1
    have u2 : AMem.ld M4 M2.length 2 = some (.int .i64 0) := w24.ld 2
    have u3 : AMem.ld M4 M2.length 3 = some (.int .i64 0) := w24.ld 3
    have v0 : AMem.ld M5 M1.length 0 = some (.int .i64 0) := y2'.ld 0
    have v1 : AMem.ld M5 M1.length 1 = some (.int .i64 0) := y2'.ld 1
    have v2 : AMem.ld M5 M1.length 2 = some (.int .i64 0) := y2'.ld 2
    have v3 : AMem.ld M5 M1.length 3 = some (.int .i64 0) := y2'.ld 3
    refine ⟨M5, ?_, ((hs3.trans s4).trans y3).mono' (by simp; omega)⟩
    simp only [w1, a0, a1, a2, b0, b1, b2, intOf_int, sliceOf_slice, Option.bind_some, e4, boolOf_bool, hf, decide_false, Bool.not_false, if_true, smR, Bool.false_eq_true, if_false, u0, u1, u2, u3, y1, v0, v1, v2, v3]

end Go.Proofs.Ytkjgmcjdblhkeaa
