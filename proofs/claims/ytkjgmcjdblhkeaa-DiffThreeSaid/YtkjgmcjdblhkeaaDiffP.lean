/- diff.fit, diff.pairs and diff.Of. -/
import Derived.Test.YtkjgmcjdblhkeaaPic3
import Derived.Test.YtkjgmcjdblhkeaaDiffL
import Derived.Test.YtkjgmcjdblhkeaaEqDiff
set_option linter.unusedVariables false
set_option linter.unusedSimpArgs false
namespace Go.Proofs.Ytkjgmcjdblhkeaa
open Go Go.Ax

theorem wrL_full : ∀ (cs zs pre : List Value), cs.length = zs.length → wrL (pre ++ zs) pre.length cs = pre ++ cs
  | [], [], pre, _ => by simp [wrL]
  | [], _ :: _, _, h => by simp at h
  | _ :: _, [], _, h => by simp at h
  | v :: cs, z :: zs, pre, h => by
    have := wrL_full cs zs (pre ++ [v]) (by simpa using h)
    simp only [List.length_append, List.length_singleton] at this
    simp only [wrL]
    rw [show (pre ++ z :: zs).set pre.length v = (pre ++ [v]) ++ zs by simp, this]
    simp

/-- A block that is made and written at once. -/
theorem wr_new (M : AMem) (zs cs : List Value) (v : Nat) (h : cs.length = zs.length) :
    ∃ M', AMem.wr (M ++ [AObj.cells zs ⟨false, v⟩]) (List.length M) 0 cs = some M' ∧ Cells M' M.length cs ∧ Same M M' [] ∧ M'.length = M.length + 1 := by
  have g := cells_new M zs v
  obtain ⟨M', w1, w2, w3, w4⟩ := g.wr (o := 0) (vs := cs) (by omega)
  refine ⟨M', w1, ?_, ((same_app M _).trans w3).mono' (by simp), by rw [w4]; simp⟩
  have := wrL_full cs zs [] h
  simp only [List.nil_append, List.length_nil] at this
  rwa [this] at w2

/-- May two be held against one another? -/
def Fit2 (Wa Ha Wb Hb : Int) (la lb : List Px) : Prop := (Wa = Wb ∧ Ha = Hb) ∧ PFit Wa Ha la ∧ PFit Wb Hb lb
instance (Wa Ha Wb Hb : Int) (la lb : List Px) : Decidable (Fit2 Wa Ha Wb Hb la lb) := by unfold Fit2; infer_instance

theorem PFit.len {W H : Int} {l : List Px} (h : PFit W H l) : 1 ≤ l.length ∧ l.length ≤ 65536 := by
  obtain ⟨_, h1, h2, h3⟩ := h
  have a := Int.mul_le_mul h1.2 h2.2 (by omega) (by omega)
  have b := Int.mul_le_mul h1.1 h2.1 (by omega) (by omega)
  omega

theorem Fit2.len {Wa Ha Wb Hb : Int} {la lb : List Px} (h : Fit2 Wa Ha Wb Hb la lb) : la.length = lb.length := by
  obtain ⟨⟨h1, h2⟩, h3, h4⟩ := h
  have a := h3.2.2.2
  have b := h4.2.2.2
  rw [h1, h2] at a
  omega

theorem fit_spec {Wa Ha Wb Hb : Int} {p q : Option Addr} {c d : Nat} {la lb : List Px} (hla : la.length ≤ 9223372036854775807) (hlb : lb.length ≤ 9223372036854775807) {M : AMem} (hp : RdL M encP p la.length la) (hq : RdL M encP q lb.length lb) :
    ∃ M', LL.call 20 [picV Wa Ha p la.length c, picV Wb Hb q lb.length d] M = some (.bool (decide (Fit2 Wa Ha Wb Hb la lb)), M') ∧ Same M M' [] := by
  rw [L_call20]
  unfold picV
  rw [E20]
  have g0 := cells_new M [.int .i64 Wa, .int .i64 Ha, .slice p la.length c] 0
  have s0 := same_app M [AObj.cells [.int .i64 Wa, .int .i64 Ha, .slice p la.length c] ⟨false, 0⟩]
  generalize hM0 : M ++ [AObj.cells [.int .i64 Wa, .int .i64 Ha, .slice p la.length c] ⟨false, 0⟩] = M0 at g0 s0
  have g1 := cells_new M0 [.int .i64 Wb, .int .i64 Hb, .slice q lb.length d] 0
  have s1 := same_app M0 [AObj.cells [.int .i64 Wb, .int .i64 Hb, .slice q lb.length d] ⟨false, 0⟩]
  generalize hM1 : M0 ++ [AObj.cells [.int .i64 Wb, .int .i64 Hb, .slice q lb.length d] ⟨false, 0⟩] = M1 at g1 s1
  have g0' := g0.same s1 (by simp)
  have hs : Same M M1 [] := (s0.trans s1).mono (by simp)
  obtain ⟨M2, e2, s2⟩ := right_spec (W := Wa) (H := Ha) (c := c) hla (hp.same hs (by simp))
  have hs2 : Same M M2 [] := (hs.trans s2).mono (by simp)
  obtain ⟨M3, e3, s3⟩ := right_spec (W := Wb) (H := Hb) (c := d) hlb (hq.same hs2 (by simp))
  have hs3 : Same M M3 [] := (hs2.trans s3).mono (by simp)
  have g1' := g1.same s2 (by simp)
  unfold picV at e2 e3
  have a0 : AMem.ld M1 M.length 0 = some (.int .i64 Wa) := g0'.ld 0
  have a1 : AMem.ld M1 M.length 1 = some (.int .i64 Ha) := g0'.ld 1
  have a2 : AMem.ld M1 M.length 2 = some (.slice p la.length c) := g0'.ld 2
  have b0 : AMem.ld M1 M0.length 0 = some (.int .i64 Wb) := g1.ld 0
  have b1 : AMem.ld M1 M0.length 1 = some (.int .i64 Hb) := g1.ld 1
  have c0 : AMem.ld M2 M0.length 0 = some (.int .i64 Wb) := g1'.ld 0
  have c1 : AMem.ld M2 M0.length 1 = some (.int .i64 Hb) := g1'.ld 1
  have c2 : AMem.ld M2 M0.length 2 = some (.slice q lb.length d) := g1'.ld 2
  simp only [a0, a1, a2, b0, b1, intOf_int, sliceOf_slice, Option.bind_some, e2, boolOf_bool, c0, c1, c2, e3]
  by_cases h1 : Wa = Wb
  · by_cases h2 : Ha = Hb
    · by_cases h3 : PFit Wa Ha la
      · refine ⟨M3, ?_, hs3⟩
        simp [h1, h2, Fit2, h3]
        rw [← h1, ← h2]
        simp [h3]
      · refine ⟨M2, ?_, hs2⟩
        simp [h1, h2, Fit2]
        rw [← h1, ← h2]
        simp [h3]
    · refine ⟨M1, ?_, hs⟩
      simp [h1, h2, Fit2]
  · refine ⟨M1, ?_, hs⟩
    simp [h1, Fit2]

def pairV (x y : Px) : Value := .agg #[.int .i64 x.r, .int .i64 x.g, .int .i64 x.b, .int .i64 y.r, .int .i64 y.g, .int .i64 y.b]

/-- Over the pixels of two pictures. -/
theorem pairs_loop {l c2 : Nat} {p q : Option Addr} {cp cq : Nat} {Wb Hb : Int} {la lb : List Px} (hn : la.length = lb.length) (hl : la.length ≤ 65536) (I : Nat → AMem → Prop)
    (hrd : ∀ i M, I i M → Rd M c2 [.int .i64 Wb, .int .i64 Hb, .slice q lb.length cq] ∧ RdL M encP p la.length la ∧ RdL M encP q lb.length lb)
    (hst : ∀ i M M', I i M → Same M M' [] → I i M')
    (hstep : ∀ i x y M, I i M → la[i]? = some x → lb[i]? = some y → ∃ M', LL.round l [.int .i64 (i : Int), pairV x y] M = some (.bool true, M') ∧ I (i + 1) M') :
    ∀ (d i : Nat) (M : AMem), i + d = la.length → I i M → ∃ M', P28_3 LL l c2 p la.length cp (la.length : Int) (i : Int) M = some (.tuple #[], M') ∧ I la.length M' := by
  intro d
  induction d with
  | zero =>
    intro i M hi hI
    obtain rfl : i = la.length := by omega
    rw [P28_3_eq LL L_loop]
    simp only [Int.lt_irrefl, decide_false, Bool.false_eq_true, if_false]
    exact ⟨M, rfl, hI⟩
  | succ d ih =>
    intro i M hi hI
    have hia : i < la.length := by omega
    have hib : i < lb.length := by omega
    obtain ⟨h0, hp, hq⟩ := hrd i M hI
    obtain ⟨a, rfl, ha⟩ := hp.2 (by omega)
    obtain ⟨b, rfl, hb⟩ := hq.2 (by omega)
    obtain ⟨x, hx⟩ : ∃ x, la[i]? = some x := ⟨_, List.getElem?_eq_getElem hia⟩
    obtain ⟨y, hy⟩ : ∃ y, lb[i]? = some y := ⟨_, List.getElem?_eq_getElem hib⟩
    obtain ⟨e0, e1, e2⟩ := px_ld ha hx
    obtain ⟨M5, w1, w2, w3, w4⟩ := wr_new M [.int .i64 0, .int .i64 0, .int .i64 0] (encP x) 0 rfl
    unfold encP at w1
    have l0 : AMem.ld M5 M.length 0 = some (.int .i64 x.r) := w2.ld 0
    have l1 : AMem.ld M5 M.length 1 = some (.int .i64 x.g) := w2.ld 1
    have l2 : AMem.ld M5 M.length 2 = some (.int .i64 x.b) := w2.ld 2
    have l3 : AMem.ld M5 c2 2 = some (.slice (some ⟨b, 0, none⟩) lb.length cq) := (h0.same w3 (by simp)).ld 2
    obtain ⟨f0, f1, f2⟩ := px_ld (hb.same w3 (by simp)) hy
    obtain ⟨M6, r1, r2⟩ := hstep i x y M5 (hst i M M5 hI w3) hx hy
    unfold pairV at r1
    obtain ⟨M', k1, k2⟩ := ih (i + 1) M6 (by omega) r2
    refine ⟨M', ?_, k2⟩
    rw [P28_3_eq LL L_loop]
    have hlt : (i : Int) < (la.length : Int) := by omega
    have hlt1 : (i : Int) < Int.ofNat la.length := by rw [ofN]; omega
    have hlt2 : (i : Int) < Int.ofNat lb.length := by rw [ofN]; omega
    have hz : (0 : Int) ≤ (i : Int) := by omega
    have hw : IntKind.wrap .i64 ((i : Int) + 1) = ((i + 1 : Nat) : Int) := by rw [w64 (by omega)]; rfl
    simp only [hlt, hlt1, hlt2, hz, and_self, decide_true, if_true, Nat.zero_add, Int.toNat_natCast, e0, e1, e2, intOf_int, Option.bind_some, w1, l0, l1, l2, l3, sliceOf_slice, f0, f1, f2, r1, boolOf_bool, Bool.not_true, Bool.false_eq_true, if_false, P28_19_eq, hw, k1]

/-! ### how unlike two are -/

def smC (s : Sm) : List Value := [.int .i64 s.n, .int .i64 s.m, .int .i64 s.a, .int .i64 s.q]

theorem nL_snoc (x y : Px) : ∀ l k : List Px, l.length = k.length → nL (l ++ [x]) (k ++ [y]) = nL l k + pn x y
  | [], [], _ => by simp [nL]
  | [], _ :: _, h => by simp at h
  | _ :: _, [], h => by simp at h
  | a :: l, b :: k, h => by simp only [List.cons_append, nL, nL_snoc x y l k (by simpa using h)]; omega
theorem aL_snoc (x y : Px) : ∀ l k : List Px, l.length = k.length → aL (l ++ [x]) (k ++ [y]) = aL l k + pa x y
  | [], [], _ => by simp [aL]
  | [], _ :: _, h => by simp at h
  | _ :: _, [], h => by simp at h
  | a :: l, b :: k, h => by simp only [List.cons_append, aL, aL_snoc x y l k (by simpa using h)]; omega
theorem qL_snoc (x y : Px) : ∀ l k : List Px, l.length = k.length → qL (l ++ [x]) (k ++ [y]) = qL l k + pq x y
  | [], [], _ => by simp [qL]
  | [], _ :: _, h => by simp at h
  | _ :: _, [], h => by simp at h
  | a :: l, b :: k, h => by simp only [List.cons_append, qL, qL_snoc x y l k (by simpa using h)]; omega
theorem mL_snoc (x y : Px) : ∀ l k : List Px, l.length = k.length → mL (l ++ [x]) (k ++ [y]) = max (mL l k) (pm x y)
  | [], [], _ => by have := pm_nonneg x y; simp only [List.nil_append, mL]; omega
  | [], _ :: _, h => by simp at h
  | _ :: _, [], h => by simp at h
  | a :: l, b :: k, h => by simp only [List.cons_append, mL, mL_snoc x y l k (by simpa using h)]; omega

theorem far_255 {x y : Int} (hx : 0 ≤ x ∧ x ≤ 255) (hy : 0 ≤ y ∧ y ≤ 255) : far x y ≤ 255 := by unfold far; omega

theorem a_le : ∀ l k : List Px, (∀ x ∈ l, x.fit) → (∀ x ∈ k, x.fit) → aL l k ≤ 765 * (l.length : Int) ∧ mL l k ≤ 255 ∧ nL l k ≤ (l.length : Int)
  | [], _, _, _ => by simp [aL, mL, nL]
  | _ :: _, [], _, _ => by simp [aL, mL, nL]; omega
  | x :: l, y :: k, h1, h2 => by
    have ih := a_le l k (fun z hz => h1 z (by simp [hz])) (fun z hz => h2 z (by simp [hz]))
    have a := h1 x (by simp)
    have b := h2 y (by simp)
    have := far_255 a.1 b.1
    have := far_255 a.2.1 b.2.1
    have := far_255 a.2.2 b.2.2
    have : pn x y ≤ 1 := by unfold pn; split <;> omega
    simp only [aL, mL, nL, pa, pm, List.length_cons]
    omega

theorem q_le (l k : List Px) (h1 : ∀ x ∈ l, x.fit) (h2 : ∀ x ∈ k, x.fit) : qL l k ≤ 195075 * (l.length : Int) := by
  have := q_len (M := 255) l k (a_le l k h1 h2).2.1
  omega

theorem of_chan {l x6 z : Nat} {x0 x1 x2 n m a q : Int} {c : Nat} {u w : Int} {M : AMem} (hc : c < 3) (hu : ([x0, x1, x2] : List Int)[c]? = some u) (hw : M.ld z (3 + c) = some (.int .i64 w)) (h6 : Cells M x6 [.int .i64 n, .int .i64 m, .int .i64 a, .int .i64 q])
    (bu : 0 ≤ u ∧ u ≤ 255) (bw : 0 ≤ w ∧ w ≤ 255) (bm : 0 ≤ m) (ba : 0 ≤ a ∧ a ≤ 1099511627776) (bq : 0 ≤ q ∧ q ≤ 1099511627776) :
    ∃ M', P6_30 LL l x6 z x0 x1 x2 (c : Int) M = P6_30 LL l x6 z x0 x1 x2 ((c + 1 : Nat) : Int) M' ∧ Cells M' x6 [.int .i64 n, .int .i64 (max m (far u w)), .int .i64 (a + far u w), .int .i64 (q + far u w * far u w)] ∧ Same M M' [x6] ∧ M'.length = M.length := by
  have hd : IntKind.wrap .i64 (u - w) = u - w := w64 (by omega)
  have hd2 : IntKind.wrap .i64 (0 - (u - w)) = w - u := by rw [w64 (by omega)]; omega
  have f0 := far_nonneg u w
  have f1 := far_255 bu bw
  have em : (if w - u > (if u - w > m then u - w else m) then w - u else (if u - w > m then u - w else m)) = max m (far u w) := by
    unfold far; split <;> (try split) <;> omega
  have ea : (if w - u > u - w then w - u else u - w) = far u w := by unfold far; split <;> omega
  have es : (u - w) * (u - w) = far u w * far u w := by
    unfold far
    rcases Int.le_total 0 (u - w) with h | h
    · rw [show max (u - w) (w - u) = u - w by omega]
    · rw [show max (u - w) (w - u) = -(u - w) by omega, Int.neg_mul_neg]
  have fs : far u w * far u w ≤ 65025 := by
    have := Int.mul_le_mul f1 f1 f0 (by omega); omega
  have fs0 : 0 ≤ far u w * far u w := Int.mul_nonneg f0 f0
  obtain ⟨M1, a1, a2, a3, a4⟩ := h6.wr (o := 1) (vs := [.int .i64 (max m (far u w))]) (by simp)
  obtain ⟨M2, b1, b2, b3, b4⟩ := a2.wr (o := 2) (vs := [.int .i64 (a + far u w)]) (by simp [wrL])
  obtain ⟨M3, c1, c2, c3, c4⟩ := b2.wr (o := 3) (vs := [.int .i64 (q + far u w * far u w)]) (by simp [wrL])
  have d1 : AMem.ld M x6 1 = some (.int .i64 m) := h6.ld 1
  have d2 : AMem.ld M1 x6 2 = some (.int .i64 a) := a2.ld 2
  have d3 : AMem.ld M2 x6 3 = some (.int .i64 q) := b2.ld 3
  refine ⟨M3, ?_, by simpa [wrL] using c2, ((a3.trans b3).trans c3).mono (by simp), by omega⟩
  rw [P6_30_eq LL L_loop]
  have hlt : (c : Int) < 3 := by omega
  have h0 : (0 : Int) ≤ (c : Int) := by omega
  have wa : IntKind.wrap .i64 (a + far u w) = a + far u w := w64 (by omega)
  have wq : IntKind.wrap .i64 (far u w * far u w) = far u w * far u w := w64 (by omega)
  have wq2 : IntKind.wrap .i64 (q + far u w * far u w) = q + far u w * far u w := w64 (by omega)
  have wc : IntKind.wrap .i64 ((c : Int) + 1) = ((c + 1 : Nat) : Int) := by rw [w64 (by omega)]; rfl
  simp only [hlt, h0, and_self, decide_true, if_true, Int.toNat_natCast, Nat.mul_one, hu, Option.bind_some, hw, intOf_int, d1, hd, hd2, em, a1, d2, ea, wa, b1, d3, es, wq, wq2, c1, P6_48_eq, wc]

structure OI (M0 : AMem) (l x4 x6 c2 : Nat) (u : Value) (Wb Hb : Int) (p q : Option Addr) (cq : Nat) (la lb : List Px) (i : Nat) (M : AMem) : Prop where
  lp : M[l]? = some (.loop (lo6_16 .ready none x4 false x6 u))
  sm : Cells M x6 (smC (smL (la.take i) (lb.take i)))
  b2 : Rd M c2 [.int .i64 Wb, .int .i64 Hb, .slice q lb.length cq]
  r1 : RdL M encP p la.length la
  r2 : RdL M encP q lb.length lb
  same : Same M0 M [x6, l]

theorem OI.st {M0 : AMem} {l x4 x6 c2 : Nat} {u : Value} {Wb Hb : Int} {p q : Option Addr} {cq : Nat} {la lb : List Px} {i : Nat} {M M' : AMem} (h : OI M0 l x4 x6 c2 u Wb Hb p q cq la lb i M) (s : Same M M' []) : OI M0 l x4 x6 c2 u Wb Hb p q cq la lb i M' :=
  ⟨s.at h.lp (by simp), h.sm.same s (by simp), h.b2.same s (by simp), h.r1.same s (by simp), h.r2.same s (by simp), (h.same.trans s).mono (by simp)⟩

theorem take_snoc {α : Type} {l : List α} {i : Nat} {x : α} (h : l[i]? = some x) : l.take (i + 1) = l.take i ++ [x] := by
  rw [List.take_add_one, h]; rfl

theorem of_step {M0 : AMem} {l x4 x6 c2 : Nat} {u : Value} {Wb Hb : Int} {p q : Option Addr} {cq : Nat} {la lb : List Px} (hn : la.length = lb.length) (hl : la.length ≤ 65536) (fa : ∀ x ∈ la, x.fit) (fb : ∀ x ∈ lb, x.fit)
    (d1 : x6 ≠ l) (d2 : c2 ≠ x6 ∧ c2 ≠ l) (d3 : ∀ b ∈ blk p, b ≠ x6 ∧ b ≠ l) (d4 : ∀ b ∈ blk q, b ≠ x6 ∧ b ≠ l) {i : Nat} {x y : Px} {M : AMem} (hI : OI M0 l x4 x6 c2 u Wb Hb p q cq la lb i M) (hx : la[i]? = some x) (hy : lb[i]? = some y) :
    ∃ M', LL.round l [.int .i64 (i : Int), pairV x y] M = some (.bool true, M') ∧ OI M0 l x4 x6 c2 u Wb Hb p q cq la lb (i + 1) M' := by
  have hil : i < la.length := (List.getElem?_eq_some_iff.1 hx).1
  have fx := fa x (List.mem_of_getElem? hx)
  have fy := fb y (List.mem_of_getElem? hy)
  obtain ⟨M1, w1, w2, w3, w4⟩ := wr_new M [.int .i64 0, .int .i64 0, .int .i64 0, .int .i64 0, .int .i64 0, .int .i64 0] [.int .i64 x.r, .int .i64 x.g, .int .i64 x.b, .int .i64 y.r, .int .i64 y.g, .int .i64 y.b] 0 rfl
  have h1 := hI.st w3
  have hlM := lt_of_get hI.lp
  have h6M := hI.sm.lt
  unfold pairV
  rw [R6_16 LL L_round l x4 false x6 u _ _ _ _ _ _ _ M none hI.lp M1 w1 h1.lp, P6_16_eq]
  have s2 := same_set M1 l (.loop (lo6_16 .busy none x4 false x6 u))
  have lp2 : (M1.set l (.loop (lo6_16 .busy none x4 false x6 u)))[l]? = some (.loop (lo6_16 .busy none x4 false x6 u)) := get_set_self h1.lp
  generalize hM2 : M1.set l (.loop (lo6_16 .busy none x4 false x6 u)) = M2 at s2 lp2
  have z2 := w2.same s2 (by simp; omega)
  have sm2 := h1.sm.same s2 (by simp; exact d1)
  have tk : smL (la.take (i + 1)) (lb.take (i + 1)) = ⟨nL (la.take i) (lb.take i) + pn x y, max (mL (la.take i) (lb.take i)) (pm x y), aL (la.take i) (lb.take i) + pa x y, qL (la.take i) (lb.take i) + pq x y⟩ := by
    have ht : (la.take i).length = (lb.take i).length := by simp [hn]
    rw [take_snoc hx, take_snoc hy, smL, nL_snoc x y _ _ ht, mL_snoc x y _ _ ht, aL_snoc x y _ _ ht, qL_snoc x y _ _ ht]
  have z0 : AMem.ld M2 M.length 0 = some (.int .i64 x.r) := z2.ld 0
  have z1 : AMem.ld M2 M.length 1 = some (.int .i64 x.g) := z2.ld 1
  have z2' : AMem.ld M2 M.length 2 = some (.int .i64 x.b) := z2.ld 2
  have z3 : AMem.ld M2 M.length 3 = some (.int .i64 y.r) := z2.ld 3
  have z4 : AMem.ld M2 M.length 4 = some (.int .i64 y.g) := z2.ld 4
  have z5 : AMem.ld M2 M.length 5 = some (.int .i64 y.b) := z2.ld 5
  simp only [z0, z1, z2', z3, z4, z5, intOf_int, Option.bind_some]
  by_cases e : x = y
  · subst e
    simp only [beq_self_eq_true, Bool.and_self, if_true]
    have s3 := same_set M2 l (.loop (lo6_16 .ready none x4 false x6 u))
    have hall : Same M1 (M2.set l (.loop (lo6_16 .ready none x4 false x6 u))) [l] := (s2.trans s3).mono (by simp)
    refine ⟨_, roundK_normal lp2, get_set_self lp2, ?_, h1.b2.same hall (by simp; exact d2.2), h1.r1.same hall (fun b hb => by simp; exact (d3 b hb).2), h1.r2.same hall (fun b hb => by simp; exact (d4 b hb).2), (h1.same.trans hall).mono (by simp)⟩
    rw [tk]
    have hm := mL_nonneg (la.take i) (lb.take i)
    have : (⟨nL (la.take i) (lb.take i) + pn x x, max (mL (la.take i) (lb.take i)) (pm x x), aL (la.take i) (lb.take i) + pa x x, qL (la.take i) (lb.take i) + pq x x⟩ : Sm) = smL (la.take i) (lb.take i) := by
      simp only [pn, pm, pa, pq, far_self, smL, Sm.mk.injEq]
      refine ⟨by simp, by omega, by simp, by simp⟩
    rw [this]
    exact h1.sm.same hall (by simp; exact d1)
  · have hne : ((x.r == y.r) && ((x.g == y.g) && (x.b == y.b))) = false := by
      rcases x with ⟨x1, x2, x3⟩
      rcases y with ⟨y1, y2, y3⟩
      simp only [Px.mk.injEq] at e
      simp only [Bool.and_eq_false_iff, beq_eq_false_iff_ne, ne_eq]
      by_cases h1 : x1 = y1
      · by_cases h2 : x2 = y2
        · exact .inr (.inr fun h3 => e ⟨h1, h2, h3⟩)
        · exact .inr (.inl h2)
      · exact .inl h1
    have hb := a_le (la.take i) (lb.take i) (fun z hz => fa z (List.mem_of_mem_take hz)) (fun z hz => fb z (List.mem_of_mem_take hz))
    have hq := q_le (la.take i) (lb.take i) (fun z hz => fa z (List.mem_of_mem_take hz)) (fun z hz => fb z (List.mem_of_mem_take hz))
    have htl : (la.take i).length ≤ 65536 := by simp; omega
    have na := aL_nonneg (la.take i) (lb.take i)
    have nq := qL_nonneg (la.take i) (lb.take i)
    have nm := mL_nonneg (la.take i) (lb.take i)
    have nn := nL_nonneg (la.take i) (lb.take i)
    obtain ⟨M3, k1, k2, k3, k4⟩ := sm2.wr (o := 0) (vs := [.int .i64 (nL (la.take i) (lb.take i) + 1)]) (by simp [smC])
    have k2' : Cells M3 x6 [.int .i64 (nL (la.take i) (lb.take i) + 1), .int .i64 (mL (la.take i) (lb.take i)), .int .i64 (aL (la.take i) (lb.take i)), .int .i64 (qL (la.take i) (lb.take i))] := by simpa [wrL, smC, smL] using k2
    have zz := z2.same k3 (by simp; omega)
    have v0 : AMem.ld M3 M.length 0 = some (.int .i64 x.r) := zz.ld 0
    have v1 : AMem.ld M3 M.length 1 = some (.int .i64 x.g) := zz.ld 1
    have v2 : AMem.ld M3 M.length 2 = some (.int .i64 x.b) := zz.ld 2
    have fr0 := far_nonneg x.r y.r
    have fr1 := far_255 fx.1 fy.1
    have fg0 := far_nonneg x.g y.g
    have fg1 := far_255 fx.2.1 fy.2.1
    have sq1 : far x.r y.r * far x.r y.r ≤ 65025 := by have := Int.mul_le_mul fr1 fr1 fr0 (by omega); omega
    have sq2 : far x.g y.g * far x.g y.g ≤ 65025 := by have := Int.mul_le_mul fg1 fg1 fg0 (by omega); omega
    have sq10 := Int.mul_nonneg fr0 fr0
    have sq20 := Int.mul_nonneg fg0 fg0
    obtain ⟨M4, p1, p2, p3, p4⟩ := of_chan (l := l) (x0 := x.r) (x1 := x.g) (x2 := x.b) (c := 0) (u := x.r) (w := y.r) (by omega) rfl (zz.ld 3) k2' fx.1 fy.1 nm (by omega) (by omega)
    have zz4 := zz.same p3 (by simp; omega)
    obtain ⟨M5, p5, p6, p7, p8⟩ := of_chan (l := l) (x0 := x.r) (x1 := x.g) (x2 := x.b) (c := 1) (u := x.g) (w := y.g) (by omega) rfl (zz4.ld 4) p2 fx.2.1 fy.2.1 (by omega) (by omega) (by omega)
    have zz5 := zz4.same p7 (by simp; omega)
    obtain ⟨M6, p9, p10, p11, p12⟩ := of_chan (l := l) (x0 := x.r) (x1 := x.g) (x2 := x.b) (c := 2) (u := x.b) (w := y.b) (by omega) rfl (zz5.ld 5) p6 fx.2.2 fy.2.2 (by omega) (by omega) (by omega)
    have hall : Same M2 M6 [x6] := (((k3.trans p3).trans p7).trans p11).mono (by simp)
    have lp6 : M6[l]? = some (.loop (lo6_16 .busy none x4 false x6 u)) := hall.at lp2 (by simp; exact Ne.symm d1)
    have s7 := same_set M6 l (.loop (lo6_16 .ready none x4 false x6 u))
    have hall2 : Same M1 (M6.set l (.loop (lo6_16 .ready none x4 false x6 u))) [x6, l] := ((s2.trans hall).trans s7).mono (by simp)
    have r0 : AMem.ld M2 x6 0 = some (.int .i64 (nL (la.take i) (lb.take i))) := sm2.ld 0
    have wn : IntKind.wrap .i64 (nL (la.take i) (lb.take i) + 1) = nL (la.take i) (lb.take i) + 1 := w64 (by omega)
    refine ⟨M6.set l (.loop (lo6_16 .ready none x4 false x6 u)), ?_, get_set_self lp6, ?_, h1.b2.same hall2 (by simp; exact d2), h1.r1.same hall2 (fun b hb => by simp; exact d3 b hb), h1.r2.same hall2 (fun b hb => by simp; exact d4 b hb), (h1.same.trans hall2).mono (by simp)⟩
    · simp only [hne, Bool.false_eq_true, if_false, r0, intOf_int, Option.bind_some, wn, k1, v0, v1, v2]
      have t1 := (p1.trans p5).trans p9
      rw [show ((0 : Nat) : Int) = 0 from rfl] at t1
      rw [t1, P6_30_eq LL L_loop]
      simp only [show ¬ (((2 + 1 : Nat) : Int) < 3) by omega, decide_false, Bool.false_eq_true, if_false]
      exact roundK_normal lp6
    · rw [tk]
      have hc : Cells (M6.set l (.loop (lo6_16 .ready none x4 false x6 u))) x6 _ := p10.same s7 (by simp; exact d1)
      have e1 : pn x y = 1 := by simp [pn, e]
      unfold smC
      simp only [e1, pm, pa, pq]
      have m1 : max (mL (la.take i) (lb.take i)) (max (max (far x.r y.r) (far x.g y.g)) (far x.b y.b)) = max (max (max (mL (la.take i) (lb.take i)) (far x.r y.r)) (far x.g y.g)) (far x.b y.b) := by omega
      rw [m1, ← Int.add_assoc, ← Int.add_assoc, ← Int.add_assoc, ← Int.add_assoc]
      exact hc

def smR (f : Bool) (la lb : List Px) : Sm := if f = true then smL la lb else ⟨0, 0, 0, 0⟩

theorem of_spec {Wa Ha Wb Hb : Int} {p q : Option Addr} {c d : Nat} {la lb : List Px} (hla : la.length ≤ 9223372036854775807) (hlb : lb.length ≤ 9223372036854775807) {M : AMem} (hp : RdL M encP p la.length la) (hq : RdL M encP q lb.length lb) :
    ∃ M', LL.call 6 [picV Wa Ha p la.length c, picV Wb Hb q lb.length d] M = some (.tuple #[.agg #[.int .i64 (smR (decide (Fit2 Wa Ha Wb Hb la lb)) la lb).n, .int .i64 (smR (decide (Fit2 Wa Ha Wb Hb la lb)) la lb).m, .int .i64 (smR (decide (Fit2 Wa Ha Wb Hb la lb)) la lb).a, .int .i64 (smR (decide (Fit2 Wa Ha Wb Hb la lb)) la lb).q], .bool (decide (Fit2 Wa Ha Wb Hb la lb))], M') ∧ Same M M' [] := by
  rw [L_call6]
  unfold picV
  rw [E6]
  have g0 := cells_new M [.int .i64 Wa, .int .i64 Ha, .slice p la.length c] 0
  have s0 := same_app M [AObj.cells [.int .i64 Wa, .int .i64 Ha, .slice p la.length c] ⟨false, 0⟩]
  have n0 : (M ++ [AObj.cells [.int .i64 Wa, .int .i64 Ha, .slice p la.length c] ⟨false, 0⟩]).length = M.length + 1 := by simp
  generalize hM0 : M ++ [AObj.cells [.int .i64 Wa, .int .i64 Ha, .slice p la.length c] ⟨false, 0⟩] = M0 at g0 s0 n0
  have g1 := cells_new M0 [.int .i64 Wb, .int .i64 Hb, .slice q lb.length d] 0
  have s1 := same_app M0 [AObj.cells [.int .i64 Wb, .int .i64 Hb, .slice q lb.length d] ⟨false, 0⟩]
  have n1 : (M0 ++ [AObj.cells [.int .i64 Wb, .int .i64 Hb, .slice q lb.length d] ⟨false, 0⟩]).length = M0.length + 1 := by simp
  generalize hM1 : M0 ++ [AObj.cells [.int .i64 Wb, .int .i64 Hb, .slice q lb.length d] ⟨false, 0⟩] = M1 at g1 s1 n1
  have g2 := cells_new M1 [.int .i64 0, .int .i64 0, .int .i64 0, .int .i64 0] 0
  have s2 := same_app M1 [AObj.cells [.int .i64 0, .int .i64 0, .int .i64 0, .int .i64 0] ⟨false, 0⟩]
  have n2 : (M1 ++ [AObj.cells [.int .i64 0, .int .i64 0, .int .i64 0, .int .i64 0] ⟨false, 0⟩]).length = M1.length + 1 := by simp
  generalize hM2 : M1 ++ [AObj.cells [.int .i64 0, .int .i64 0, .int .i64 0, .int .i64 0] ⟨false, 0⟩] = M2 at g2 s2 n2
  have hs : Same M M2 [] := ((s0.trans s1).trans s2).mono (by simp)
  have g0' := (g0.same s1 (by simp)).same s2 (by simp)
  have g1' := g1.same s2 (by simp)
  obtain ⟨M3, e3, s3⟩ := fit_spec (Wa := Wa) (Ha := Ha) (Wb := Wb) (Hb := Hb) (c := c) (d := d) hla hlb (hp.same hs (by simp)) (hq.same hs (by simp))
  unfold picV at e3
  have hs3 : Same M M3 [] := (hs.trans s3).mono (by simp)
  have a0 : AMem.ld M2 M.length 0 = some (.int .i64 Wa) := g0'.ld 0
  have a1 : AMem.ld M2 M.length 1 = some (.int .i64 Ha) := g0'.ld 1
  have a2 : AMem.ld M2 M.length 2 = some (.slice p la.length c) := g0'.ld 2
  have b0 : AMem.ld M2 M0.length 0 = some (.int .i64 Wb) := g1'.ld 0
  have b1 : AMem.ld M2 M0.length 1 = some (.int .i64 Hb) := g1'.ld 1
  have b2 : AMem.ld M2 M0.length 2 = some (.slice q lb.length d) := g1'.ld 2
  simp only [a0, a1, a2, b0, b1, b2, intOf_int, sliceOf_slice, Option.bind_some, e3, boolOf_bool]
  by_cases hf : Fit2 Wa Ha Wb Hb la lb
  · simp only [hf, decide_true, Bool.not_true, Bool.false_eq_true, if_false, smR, if_true]
    have hn := hf.len
    have hle := hf.2.1.len
    have g4 := cells_new M3 [.int .i64 0, .int .i64 0, .int .i64 0, .int .i64 0] 0
    have s4 := same_app M3 [AObj.cells [.int .i64 0, .int .i64 0, .int .i64 0, .int .i64 0] ⟨false, 0⟩]
    have n4 : (M3 ++ [AObj.cells [.int .i64 0, .int .i64 0, .int .i64 0, .int .i64 0] ⟨false, 0⟩]).length = M3.length + 1 := by simp
    generalize hM4 : M3 ++ [AObj.cells [.int .i64 0, .int .i64 0, .int .i64 0, .int .i64 0] ⟨false, 0⟩] = M4 at g4 s4 n4
    have g0'' := (g0'.same s3 (by simp)).same s4 (by simp)
    have g1'' := (g1'.same s3 (by simp)).same s4 (by simp)
    have g2'' := (g2.same s3 (by simp)).same s4 (by simp)
    have a0 : AMem.ld M4 M.length 0 = some (.int .i64 Wa) := g0''.ld 0
    have a1 : AMem.ld M4 M.length 1 = some (.int .i64 Ha) := g0''.ld 1
    have a2 : AMem.ld M4 M.length 2 = some (.slice p la.length c) := g0''.ld 2
    have b0 : AMem.ld M4 M0.length 0 = some (.int .i64 Wb) := g1''.ld 0
    have b1 : AMem.ld M4 M0.length 1 = some (.int .i64 Hb) := g1''.ld 1
    have b2 : AMem.ld M4 M0.length 2 = some (.slice q lb.length d) := g1''.ld 2
    simp only [a0, a1, a2, b0, b1, b2, intOf_int, sliceOf_slice, Option.bind_some]
    rw [L_call21, E21]
    have g5 := cells_new M4 [.int .i64 Wa, .int .i64 Ha, .slice p la.length c] 0
    have s5 := same_app M4 [AObj.cells [.int .i64 Wa, .int .i64 Ha, .slice p la.length c] ⟨false, 0⟩]
    have n5 : (M4 ++ [AObj.cells [.int .i64 Wa, .int .i64 Ha, .slice p la.length c] ⟨false, 0⟩]).length = M4.length + 1 := by simp
    generalize hM5 : M4 ++ [AObj.cells [.int .i64 Wa, .int .i64 Ha, .slice p la.length c] ⟨false, 0⟩] = M5 at g5 s5 n5
    have g6 := cells_new M5 [.int .i64 Wb, .int .i64 Hb, .slice q lb.length d] 0
    have s6 := same_app M5 [AObj.cells [.int .i64 Wb, .int .i64 Hb, .slice q lb.length d] ⟨false, 0⟩]
    have n6 : (M5 ++ [AObj.cells [.int .i64 Wb, .int .i64 Hb, .slice q lb.length d] ⟨false, 0⟩]).length = M5.length + 1 := by simp
    generalize hM6 : M5 ++ [AObj.cells [.int .i64 Wb, .int .i64 Hb, .slice q lb.length d] ⟨false, 0⟩] = M6 at g6 s6 n6
    simp only [Option.bind_some, anyOf?, leafV, if_true, funK_func, List.nil_append, List.cons_append]
    generalize hu : (Value.func (.func 28) #[] #[.pointer (some ⟨M4.length, 0, none⟩), .pointer (some ⟨M5.length, 0, none⟩)]) = u
    have s7 := same_app M6 [AObj.loop (lo6_16 .ready none M1.length false M3.length u)]
    have lp7 : (M6 ++ [AObj.loop (lo6_16 .ready none M1.length false M3.length u)])[M6.length]? = some (.loop (lo6_16 .ready none M1.length false M3.length u)) := get_new _ _
    generalize hM7 : M6 ++ [AObj.loop (lo6_16 .ready none M1.length false M3.length u)] = M7 at s7 lp7
    have l3 := s3.le
    have hs6 : Same M M6 [] := (((hs3.trans s4).trans s5).trans s6).mono (by simp)
    have hs7 : Same M M7 [] := (hs6.trans s7).mono (by simp)
    have hpl := hp.lt (by omega)
    have hql := hq.lt (by omega)
    have hI : OI M7 M6.length M1.length M3.length M5.length u Wb Hb p q d la lb 0 M7 :=
      ⟨lp7, by have := ((g4.same s5 (by simp)).same s6 (by simp)).same s7 (by simp); simpa [smC, smL, nL, mL, aL, qL] using this, (g6.same s7 (by simp)).rd, hp.same hs7 (by simp), hq.same hs7 (by simp), .refl _ _⟩
    obtain ⟨M8, k1, k2⟩ := pairs_loop (cp := c) hn hle.2 (fun i M' => OI M7 M6.length M1.length M3.length M5.length u Wb Hb p q d la lb i M')
      (fun i M' h => ⟨h.b2, h.r1, h.r2⟩) (fun i M' M'' h s => h.st s)
      (fun i x y M' h hx hy => of_step hn hle.2 hf.2.1.1 hf.2.2.1 (by omega) (by omega) (fun b hb => by have := hpl b hb; omega) (fun b hb => by have := hql b hb; omega) h hx hy)
      la.length 0 M7 (by omega) hI
    rw [L_call28, E28]
    have x2 : AMem.ld M7 M4.length 2 = some (.slice p la.length c) := ((g5.same s6 (by simp)).same s7 (by simp)).ld 2
    have k1' : P28_3 LL M6.length M5.length p la.length c (la.length : Int) 0 M7 = some (.tuple #[], M8) := k1
    simp only [x2, sliceOf_slice, Option.bind_some, ofN, k1']
    rw [rangeK_normal k2.lp (by simp [lo6_16]) rfl, P6_49_eq]
    have s9 := same_set M8 M6.length .dead
    have sm9 := k2.sm.same s9 (by simp; omega)
    rw [List.take_length, hn, List.take_length] at sm9
    have d4 := ((((g2''.same s5 (by simp)).same s6 (by simp)).same s7 (by simp)).same k2.same (by simp; omega)).same s9 (by simp; omega)
    generalize hM9 : M8.set M6.length .dead = M9 at s9 sm9 d4
    obtain ⟨M10, w1, w2, w3, _⟩ := d4.wr (o := 0) (vs := smC (smL la lb)) (by simp [smC])
    have w2' : Cells M10 M1.length (smC (smL la lb)) := by simpa [wrL, smC] using w2
    unfold smC at w1
    have y0 : AMem.ld M9 M3.length 0 = some (.int .i64 (smL la lb).n) := sm9.ld 0
    have y1 : AMem.ld M9 M3.length 1 = some (.int .i64 (smL la lb).m) := sm9.ld 1
    have y2 : AMem.ld M9 M3.length 2 = some (.int .i64 (smL la lb).a) := sm9.ld 2
    have y3 : AMem.ld M9 M3.length 3 = some (.int .i64 (smL la lb).q) := sm9.ld 3
    have v0 : AMem.ld M10 M1.length 0 = some (.int .i64 (smL la lb).n) := w2'.ld 0
    have v1 : AMem.ld M10 M1.length 1 = some (.int .i64 (smL la lb).m) := w2'.ld 1
    have v2 : AMem.ld M10 M1.length 2 = some (.int .i64 (smL la lb).a) := w2'.ld 2
    have v3 : AMem.ld M10 M1.length 3 = some (.int .i64 (smL la lb).q) := w2'.ld 3
    refine ⟨M10, ?_, ?_⟩
    · simp only [y0, y1, y2, y3, intOf_int, Option.bind_some, w1, v0, v1, v2, v3]
    · refine (((hs7.trans k2.same).trans s9).trans w3).mono' fun b hb hlt => ?_
      simp at hb
      omega
  · simp only [hf, decide_false, Bool.not_false, if_true, smR, Bool.false_eq_true, if_false]
    obtain ⟨M9, w1, w2, w3, _⟩ := (g2.same s3 (by simp)).wr (o := 0) (vs := [.int .i64 0, .int .i64 0, .int .i64 0, .int .i64 0]) (by simp)
    have w2' : Cells M9 M1.length [.int .i64 0, .int .i64 0, .int .i64 0, .int .i64 0] := by simpa [wrL] using w2
    have v0 : AMem.ld M9 M1.length 0 = some (.int .i64 0) := w2'.ld 0
    have v1 : AMem.ld M9 M1.length 1 = some (.int .i64 0) := w2'.ld 1
    have v2 : AMem.ld M9 M1.length 2 = some (.int .i64 0) := w2'.ld 2
    have v3 : AMem.ld M9 M1.length 3 = some (.int .i64 0) := w2'.ld 3
    refine ⟨M9, ?_, (hs3.trans w3).mono' (by simp; omega)⟩
    simp only [w1, v0, v1, v2, v3, intOf_int, Option.bind_some]

end Go.Proofs.Ytkjgmcjdblhkeaa
