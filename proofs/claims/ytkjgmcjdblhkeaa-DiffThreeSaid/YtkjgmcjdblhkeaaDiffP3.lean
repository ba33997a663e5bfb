/- diff.Mix. -/
import Derived.Test.YtkjgmcjdblhkeaaDiffP2
set_option linter.unusedVariables false
set_option linter.unusedSimpArgs false
namespace Go.Proofs.Ytkjgmcjdblhkeaa
open Go Go.Ax

def pxz : Px := ⟨0, 0, 0⟩

def Px.upd (x : Px) (c : Nat) (v : Int) : Px := match c with
  | 0 => ⟨v, x.g, x.b⟩
  | 1 => ⟨x.r, v, x.b⟩
  | _ => ⟨x.r, x.g, v⟩

theorem encP_upd (x : Px) {c : Nat} (hc : c < 3) (v : Int) : encP (x.upd c v) = (encP x).set c (.int .i64 v) := by
  match c, hc with
  | 0, _ => rfl
  | 1, _ => rfl
  | 2, _ => rfl

theorem mix_chan {l x5 x8 z a : Nat} {cs : List Px} {pt : Int} {x0 x1 x2 : Int} {c i n : Nat} {Wa Ha u w : Int} {o : Px} {M : AMem} (hc : c < 3) (hu : ([x0, x1, x2] : List Int)[c]? = some u) (hw : M.ld z (3 + c) = some (.int .i64 w)) (h5 : M.ld x5 0 = some (.int .i64 pt)) (h8 : M.ld x8 2 = some (.slice (some ⟨a, 0, none⟩) n 3))
    (hcs : Cells M a (cs.flatMap encP)) (hi : cs[i]? = some o) (hin : i < n) (bu : 0 ≤ u ∧ u ≤ 255) (bw : 0 ≤ w ∧ w ≤ 255) (bp : 0 ≤ pt ∧ pt ≤ 1000) :
    ∃ M', P13_24 LL l x5 x8 (i : Int) z x0 x1 x2 (c : Int) M = P13_24 LL l x5 x8 (i : Int) z x0 x1 x2 ((c + 1 : Nat) : Int) M' ∧ Cells M' a ((cs.set i (o.upd c (mixN pt u w))).flatMap encP) ∧ Same M M' [a] ∧ M'.length = M.length := by
  have a1 : 0 ≤ u * (1000 - pt) := Int.mul_nonneg bu.1 (by omega)
  have a2 : u * (1000 - pt) ≤ 255 * 1000 := Int.mul_le_mul bu.2 (by omega) (by omega) (by omega)
  have a3 : 0 ≤ w * pt := Int.mul_nonneg bw.1 bp.1
  have a4 : w * pt ≤ 255 * 1000 := Int.mul_le_mul bw.2 bp.2 (by omega) (by omega)
  have e1 : IntKind.wrap .i64 (1000 - pt) = 1000 - pt := w64 (by omega)
  have e2 : IntKind.wrap .i64 (u * (1000 - pt)) = u * (1000 - pt) := w64 (by omega)
  have e3 : IntKind.wrap .i64 (w * pt) = w * pt := w64 (by omega)
  have e4 : IntKind.wrap .i64 (u * (1000 - pt) + w * pt) = u * (1000 - pt) + w * pt := w64 (by omega)
  have e5 : Int.tdiv (u * (1000 - pt) + w * pt) 1000 = mixN pt u w := Int.tdiv_eq_ediv_of_nonneg (by omega)
  have e6 : IntKind.wrap .i64 (mixN pt u w) = mixN pt u w := w64 (by unfold mixN; omega)
  obtain ⟨M1, w1, w2, w3, w4⟩ := cell_wr encP_length hcs hi hc (encP_upd o hc (mixN pt u w))
  refine ⟨M1, ?_, w2, w3, w4⟩
  rw [P13_24_eq LL L_loop]
  have hlt : (c : Int) < 3 := by omega
  have h0 : (0 : Int) ≤ (c : Int) := by omega
  have h1 : (0 : Int) ≤ (i : Int) := by omega
  have h2 : (i : Int) < Int.ofNat n := by rw [ofN]; omega
  have wc : IntKind.wrap .i64 ((c : Int) + 1) = ((c + 1 : Nat) : Int) := by rw [w64 (by omega)]; rfl
  simp only [hlt, h0, h1, h2, and_self, decide_true, if_true, Int.toNat_natCast, Nat.mul_one, Nat.zero_add, hu, Option.bind_some, hw, intOf_int, h5, h8, sliceOf_slice, e1, e2, e3, e4, e5, e6, w1, P13_36_eq, wc]

structure MxI (M0 : AMem) (l x5 x6 x8 c2 a : Nat) (u : Value) (pt Wa Ha Wb Hb : Int) (p q : Option Addr) (cq : Nat) (la lb : List Px) (i : Nat) (M : AMem) : Prop where
  lp : M[l]? = some (.loop (lo13_16 .ready none x5 x6 false x8 u))
  out : Cells M a ((mixL pt (la.take i) (lb.take i) ++ List.replicate (la.length - i) pxz).flatMap encP)
  h5 : Rd M x5 [.int .i64 pt]
  h8 : Rd M x8 [.int .i64 Wa, .int .i64 Ha, .slice (some ⟨a, 0, none⟩) la.length 3]
  b2 : Rd M c2 [.int .i64 Wb, .int .i64 Hb, .slice q lb.length cq]
  r1 : RdL M encP p la.length la
  r2 : RdL M encP q lb.length lb
  same : Same M0 M [a, l]

theorem MxI.st {M0 : AMem} {l x5 x6 x8 c2 a : Nat} {u : Value} {pt Wa Ha Wb Hb : Int} {p q : Option Addr} {cq : Nat} {la lb : List Px} {i : Nat} {M M' : AMem} (h : MxI M0 l x5 x6 x8 c2 a u pt Wa Ha Wb Hb p q cq la lb i M) (s : Same M M' []) : MxI M0 l x5 x6 x8 c2 a u pt Wa Ha Wb Hb p q cq la lb i M' :=
  ⟨s.at h.lp (by simp), h.out.same s (by simp), h.h5.same s (by simp), h.h8.same s (by simp), h.b2.same s (by simp), h.r1.same s (by simp), h.r2.same s (by simp), (h.same.trans s).mono (by simp)⟩

theorem mx_step {M0 : AMem} {l x5 x6 x8 c2 a : Nat} {u : Value} {pt Wa Ha Wb Hb : Int} {p q : Option Addr} {cq : Nat} {la lb : List Px} (hn : la.length = lb.length) (hl : la.length ≤ 65536) (fa : ∀ x ∈ la, x.fit) (fb : ∀ x ∈ lb, x.fit) (bp : 0 ≤ pt ∧ pt ≤ 1000)
    (d1 : a ≠ l) (d2 : (c2 ≠ a ∧ c2 ≠ l) ∧ (x5 ≠ a ∧ x5 ≠ l) ∧ (x8 ≠ a ∧ x8 ≠ l)) (d3 : ∀ b ∈ blk p, b ≠ a ∧ b ≠ l) (d4 : ∀ b ∈ blk q, b ≠ a ∧ b ≠ l) {i : Nat} {x y : Px} {M : AMem} (hI : MxI M0 l x5 x6 x8 c2 a u pt Wa Ha Wb Hb p q cq la lb i M) (hx : la[i]? = some x) (hy : lb[i]? = some y) :
    ∃ M', LL.round l [.int .i64 (i : Int), pairV x y] M = some (.bool true, M') ∧ MxI M0 l x5 x6 x8 c2 a u pt Wa Ha Wb Hb p q cq la lb (i + 1) M' := by
  have hil : i < la.length := (List.getElem?_eq_some_iff.1 hx).1
  have fx := fa x (List.mem_of_getElem? hx)
  have fy := fb y (List.mem_of_getElem? hy)
  obtain ⟨M1, w1, w2, w3, w4⟩ := wr_new M [.int .i64 0, .int .i64 0, .int .i64 0, .int .i64 0, .int .i64 0, .int .i64 0] [.int .i64 x.r, .int .i64 x.g, .int .i64 x.b, .int .i64 y.r, .int .i64 y.g, .int .i64 y.b] 0 rfl
  have h1 := hI.st w3
  have hlM := lt_of_get hI.lp
  have haM := hI.out.lt
  unfold pairV
  rw [R13_16 LL L_round l x5 x6 false x8 u _ _ _ _ _ _ _ M none hI.lp M1 w1 h1.lp, P13_16_eq]
  have s2 := same_set M1 l (.loop (lo13_16 .busy none x5 x6 false x8 u))
  have lp2 : (M1.set l (.loop (lo13_16 .busy none x5 x6 false x8 u)))[l]? = some (.loop (lo13_16 .busy none x5 x6 false x8 u)) := get_set_self h1.lp
  generalize hM2 : M1.set l (.loop (lo13_16 .busy none x5 x6 false x8 u)) = M2 at s2 lp2
  have z2 := w2.same s2 (by simp; omega)
  have z0 : AMem.ld M2 M.length 0 = some (.int .i64 x.r) := z2.ld 0
  have z1 : AMem.ld M2 M.length 1 = some (.int .i64 x.g) := z2.ld 1
  have z2' : AMem.ld M2 M.length 2 = some (.int .i64 x.b) := z2.ld 2
  simp only [z0, z1, z2', intOf_int, Option.bind_some]
  have o2 := h1.out.same s2 (by simp; exact d1)
  have h52 := h1.h5.same s2 (by simp; exact d2.2.1.2)
  have h82 := h1.h8.same s2 (by simp; exact d2.2.2.2)
  have ht : (mixL pt (la.take i) (lb.take i)).length = i := by
    rw [mixL_length (by simp [hn])]; simp; omega
  have hrep : List.replicate (la.length - i) pxz = pxz :: List.replicate (la.length - (i + 1)) pxz := by
    rw [show la.length - i = (la.length - (i + 1)) + 1 by omega, List.replicate_succ]
  rw [hrep] at o2
  have gi : (mixL pt (la.take i) (lb.take i) ++ pxz :: List.replicate (la.length - (i + 1)) pxz)[i]? = some pxz := by
    rw [List.getElem?_append_right (by omega), ht]; simp
  have hset : ∀ v : Px, (mixL pt (la.take i) (lb.take i) ++ pxz :: List.replicate (la.length - (i + 1)) pxz).set i v = mixL pt (la.take i) (lb.take i) ++ v :: List.replicate (la.length - (i + 1)) pxz := fun v => by
    rw [List.set_append_right _ _ (by omega), ht]; simp
  have gi' : ∀ v : Px, (mixL pt (la.take i) (lb.take i) ++ v :: List.replicate (la.length - (i + 1)) pxz)[i]? = some v := fun v => by
    rw [List.getElem?_append_right (by omega), ht]; simp
  have hset' : ∀ v v' : Px, (mixL pt (la.take i) (lb.take i) ++ v' :: List.replicate (la.length - (i + 1)) pxz).set i v = mixL pt (la.take i) (lb.take i) ++ v :: List.replicate (la.length - (i + 1)) pxz := fun v v' => by
    rw [List.set_append_right _ _ (by omega), ht]; simp
  obtain ⟨M4, p1, p2, p3, p4⟩ := mix_chan (l := l) (x0 := x.r) (x1 := x.g) (x2 := x.b) (c := 0) (u := x.r) (w := y.r) (Wa := Wa) (Ha := Ha) (by omega) rfl (z2.ld 3) (h52.ld 0) (h82.ld 2) o2 gi hil fx.1 fy.1 bp
  rw [hset] at p2
  have zz4 := z2.same p3 (by simp; omega)
  have h54 := h52.same p3 (by simp; exact d2.2.1.1)
  have h84 := h82.same p3 (by simp; exact d2.2.2.1)
  obtain ⟨M5, p5, p6, p7, p8⟩ := mix_chan (l := l) (x0 := x.r) (x1 := x.g) (x2 := x.b) (c := 1) (u := x.g) (w := y.g) (Wa := Wa) (Ha := Ha) (by omega) rfl (zz4.ld 4) (h54.ld 0) (h84.ld 2) p2 (gi' _) hil fx.2.1 fy.2.1 bp
  rw [hset'] at p6
  have zz5 := zz4.same p7 (by simp; omega)
  have h55 := h54.same p7 (by simp; exact d2.2.1.1)
  have h85 := h84.same p7 (by simp; exact d2.2.2.1)
  obtain ⟨M6, p9, p10, p11, p12⟩ := mix_chan (l := l) (x0 := x.r) (x1 := x.g) (x2 := x.b) (c := 2) (u := x.b) (w := y.b) (Wa := Wa) (Ha := Ha) (by omega) rfl (zz5.ld 5) (h55.ld 0) (h85.ld 2) p6 (gi' _) hil fx.2.2 fy.2.2 bp
  rw [hset'] at p10
  have hall : Same M2 M6 [a] := ((p3.trans p7).trans p11).mono (by simp)
  have lp6 : M6[l]? = some (.loop (lo13_16 .busy none x5 x6 false x8 u)) := hall.at lp2 (by simp; exact Ne.symm d1)
  have s7 := same_set M6 l (.loop (lo13_16 .ready none x5 x6 false x8 u))
  have hall2 : Same M1 (M6.set l (.loop (lo13_16 .ready none x5 x6 false x8 u))) [a, l] := ((s2.trans hall).trans s7).mono (by simp)
  refine ⟨M6.set l (.loop (lo13_16 .ready none x5 x6 false x8 u)), ?_, get_set_self lp6, ?_, h1.h5.same hall2 (by simp; exact d2.2.1), h1.h8.same hall2 (by simp; exact d2.2.2), h1.b2.same hall2 (by simp; exact d2.1), h1.r1.same hall2 (fun b hb => by simp; exact d3 b hb), h1.r2.same hall2 (fun b hb => by simp; exact d4 b hb), (h1.same.trans hall2).mono (by simp)⟩
  · have t1 := (p1.trans p5).trans p9
    rw [show ((0 : Nat) : Int) = 0 from rfl] at t1
    rw [t1, P13_24_eq LL L_loop]
    simp only [show ¬ (((2 + 1 : Nat) : Int) < 3) by omega, decide_false, Bool.false_eq_true, if_false]
    exact roundK_normal lp6
  · have e : mixL pt (la.take (i + 1)) (lb.take (i + 1)) ++ List.replicate (la.length - (i + 1)) pxz = mixL pt (la.take i) (lb.take i) ++ ((pxz.upd 0 (mixN pt x.r y.r)).upd 1 (mixN pt x.g y.g)).upd 2 (mixN pt x.b y.b) :: List.replicate (la.length - (i + 1)) pxz := by
      rw [take_snoc hx, take_snoc hy]
      unfold mixL
      rw [List.zipWith_append (by simp [hn])]
      simp [mixP, Px.upd]
    rw [e]
    exact p10.same s7 (by simp; exact d1)

theorem mix_spec {Wa Ha Wb Hb pt : Int} {p q : Option Addr} {c d : Nat} {la lb : List Px} (hla : la.length ≤ 9223372036854775807) (hlb : lb.length ≤ 9223372036854775807) {M : AMem} (hp : RdL M encP p la.length la) (hq : RdL M encP q lb.length lb) :
    (Fit2 Wa Ha Wb Hb la lb ∧ 0 ≤ pt ∧ pt ≤ 1000 → ∃ M' a, LL.call 13 [picV Wa Ha p la.length c, picV Wb Hb q lb.length d, .int .i64 pt] M = some (.tuple #[picV Wa Ha (some ⟨a, 0, none⟩) la.length 3, .bool true], M') ∧ Cells M' a ((mixL pt la lb).flatMap encP) ∧ Same M M' [] ∧ M.length ≤ a) ∧
    (¬ (Fit2 Wa Ha Wb Hb la lb ∧ 0 ≤ pt ∧ pt ≤ 1000) → ∃ M', LL.call 13 [picV Wa Ha p la.length c, picV Wb Hb q lb.length d, .int .i64 pt] M = some (.tuple #[picV 0 0 none 0 0, .bool false], M') ∧ Same M M' []) := by
  rw [L_call13]
  unfold picV
  rw [E13]
  have g0 := cells_new M [.int .i64 Wa, .int .i64 Ha, .slice p la.length c] 0
  have s0 := same_app M [AObj.cells [.int .i64 Wa, .int .i64 Ha, .slice p la.length c] ⟨false, 0⟩]
  have n0 : (M ++ [AObj.cells [.int .i64 Wa, .int .i64 Ha, .slice p la.length c] ⟨false, 0⟩]).length = M.length + 1 := by simp
  generalize hM0 : M ++ [AObj.cells [.int .i64 Wa, .int .i64 Ha, .slice p la.length c] ⟨false, 0⟩] = M0 at g0 s0 n0
  have g1 := cells_new M0 [.int .i64 Wb, .int .i64 Hb, .slice q lb.length d] 0
  have s1 := same_app M0 [AObj.cells [.int .i64 Wb, .int .i64 Hb, .slice q lb.length d] ⟨false, 0⟩]
  have n1 : (M0 ++ [AObj.cells [.int .i64 Wb, .int .i64 Hb, .slice q lb.length d] ⟨false, 0⟩]).length = M0.length + 1 := by simp
  generalize hM1 : M0 ++ [AObj.cells [.int .i64 Wb, .int .i64 Hb, .slice q lb.length d] ⟨false, 0⟩] = M1 at g1 s1 n1
  have gp := cells_new M1 [.int .i64 pt] 0
  have sp := same_app M1 [AObj.cells [.int .i64 pt] ⟨false, 0⟩]
  have np : (M1 ++ [AObj.cells [.int .i64 pt] ⟨false, 0⟩]).length = M1.length + 1 := by simp
  generalize hMp : M1 ++ [AObj.cells [.int .i64 pt] ⟨false, 0⟩] = Mp at gp sp np
  have g2 := cells_new Mp [.int .i64 0, .int .i64 0, .slice none 0 0] 0
  have s2 := same_app Mp [AObj.cells [.int .i64 0, .int .i64 0, .slice none 0 0] ⟨false, 0⟩]
  have n2 : (Mp ++ [AObj.cells [.int .i64 0, .int .i64 0, .slice none 0 0] ⟨false, 0⟩]).length = Mp.length + 1 := by simp
  generalize hM2 : Mp ++ [AObj.cells [.int .i64 0, .int .i64 0, .slice none 0 0] ⟨false, 0⟩] = M2 at g2 s2 n2
  have hs : Same M M2 [] := (((s0.trans s1).trans sp).trans s2).mono (by simp)
  have g0' := ((g0.same s1 (by simp)).same sp (by simp)).same s2 (by simp)
  have g1' := (g1.same sp (by simp)).same s2 (by simp)
  have gp' := gp.same s2 (by simp)
  obtain ⟨M3, e3, s3⟩ := fit_spec (Wa := Wa) (Ha := Ha) (Wb := Wb) (Hb := Hb) (c := c) (d := d) hla hlb (hp.same hs (by simp)) (hq.same hs (by simp))
  unfold picV at e3
  have hs3 : Same M M3 [] := (hs.trans s3).mono (by simp)
  obtain ⟨a0, a1, a2⟩ := picV_ld g0'.rd
  obtain ⟨b0, b1, b2⟩ := picV_ld g1'.rd
  have gp3 := gp'.same s3 (by simp)
  have p3 : AMem.ld M3 M1.length 0 = some (.int .i64 pt) := gp3.ld 0
  simp only [a0, a1, a2, b0, b1, b2, intOf_int, sliceOf_slice, Option.bind_some, e3, boolOf_bool]
  have l3 := s3.le
  have bad : ∃ M', AMem.wr M3 Mp.length 0 [.int .i64 0, .int .i64 0, .slice none 0 0] = some M' ∧ (AMem.ld M' Mp.length 0 = some (.int .i64 0) ∧ AMem.ld M' Mp.length 1 = some (.int .i64 0) ∧ AMem.ld M' Mp.length 2 = some (.slice none 0 0)) ∧ Same M M' [] := by
    obtain ⟨M9, w1, w2, w3, _⟩ := (g2.same s3 (by simp)).wr (o := 0) (vs := [.int .i64 0, .int .i64 0, .slice none 0 0]) (by simp)
    have w2' : Cells M9 Mp.length [.int .i64 0, .int .i64 0, .slice none 0 0] := by simpa [wrL] using w2
    exact ⟨M9, w1, picV_ld w2'.rd, (hs3.trans w3).mono' (by simp; omega)⟩
  refine ⟨fun hf => ?_, fun hf => ?_⟩
  · obtain ⟨hf, hp0, hp1⟩ := hf
    have q0 : ¬ pt < 0 := by omega
    have q1 : ¬ pt > 1000 := by omega
    simp only [hf, decide_true, Bool.not_true, Bool.false_eq_true, if_false, p3, intOf_int, Option.bind_some, q0, q1, decide_false]
    have hn := hf.len
    have hle := hf.2.1.len
    have g4 := cells_new M3 [.int .i64 0, .int .i64 0, .slice none 0 0] 0
    have s4 := same_app M3 [AObj.cells [.int .i64 0, .int .i64 0, .slice none 0 0] ⟨false, 0⟩]
    have n4 : (M3 ++ [AObj.cells [.int .i64 0, .int .i64 0, .slice none 0 0] ⟨false, 0⟩]).length = M3.length + 1 := by simp
    generalize hM4 : M3 ++ [AObj.cells [.int .i64 0, .int .i64 0, .slice none 0 0] ⟨false, 0⟩] = M4 at g4 s4 n4
    have hs4 : Same M M4 [] := (hs3.trans s4).mono (by simp)
    have g04 := (g0'.same s3 (by simp)).same s4 (by simp)
    obtain ⟨c0, c1, c2⟩ := picV_ld g04.rd
    have hg1 : (0 : Int) ≤ Int.ofNat la.length ∧ Int.ofNat la.length ≤ Int.ofNat la.length ∧ Int.ofNat la.length ≤ 140737488355328 ∧ Int.ofNat la.length * 24 ≤ 140737488355328 := by rw [ofN]; omega
    simp only [c0, c1, c2, intOf_int, sliceOf_slice, Option.bind_some, hg1, and_self, if_true]
    have hz : (List.replicate (Int.toNat (Int.ofNat la.length)) [Value.int .i64 0, Value.int .i64 0, Value.int .i64 0]).flatten = (List.replicate la.length pxz).flatMap encP := by
      rw [ofN, Int.toNat_natCast]; exact replicate_flat encP pxz la.length
    rw [hz]
    have ht : Int.toNat (Int.ofNat la.length) = la.length := by rw [ofN, Int.toNat_natCast]
    rw [ht]
    have g5 := cells_new M4 ((List.replicate la.length pxz).flatMap encP) 0
    have s5 := same_app M4 [AObj.cells ((List.replicate la.length pxz).flatMap encP) ⟨false, 0⟩]
    have n5 : (M4 ++ [AObj.cells ((List.replicate la.length pxz).flatMap encP) ⟨false, 0⟩]).length = M4.length + 1 := by simp
    generalize hM5 : M4 ++ [AObj.cells ((List.replicate la.length pxz).flatMap encP) ⟨false, 0⟩] = M5 at g5 s5 n5
    have hchk : chkOk [(1, 7), (3, 7), (9, 7)] [(9, M3.length), (3, M.length), (1, M.length)] [(7, (M4, M5))] = true := by
      simp [chkOk, List.lookup, ver_same s5 (show M3.length < M4.length by omega) (by simp), ver_same s5 (show M.length < M4.length by omega) (by simp)]
    obtain ⟨M6, w1, w2, w3, w4⟩ := (g4.same s5 (by simp)).wr (o := 0) (vs := [.int .i64 Wa, .int .i64 Ha, .slice (some ⟨M4.length, 0, none⟩) la.length 3]) (by simp)
    have w2' : Cells M6 M3.length [.int .i64 Wa, .int .i64 Ha, .slice (some ⟨M4.length, 0, none⟩) la.length 3] := by simpa [wrL] using w2
    have hs6 : Same M M6 [] := ((hs4.trans s5).trans w3).mono' (by simp; omega)
    have g06 := (g04.same s5 (by simp)).same w3 (by simp; omega)
    have g16 := (((g1'.same s3 (by simp)).same s4 (by simp)).same s5 (by simp)).same w3 (by simp; omega)
    have gp6 := ((gp3.same s4 (by simp)).same s5 (by simp)).same w3 (by simp; omega)
    have g26 := (((g2.same s3 (by simp)).same s4 (by simp)).same s5 (by simp)).same w3 (by simp; omega)
    have g56 := g5.same w3 (by simp; omega)
    obtain ⟨d0, d1, d2⟩ := picV_ld g06.rd
    obtain ⟨f0, f1, f2⟩ := picV_ld g16.rd
    simp only [w1, Option.bind_some, hchk, if_true, d0, d1, d2, f0, f1, f2, intOf_int, sliceOf_slice]
    rw [L_call21, E21]
    have g7 := cells_new M6 [.int .i64 Wa, .int .i64 Ha, .slice p la.length c] 0
    have s7 := same_app M6 [AObj.cells [.int .i64 Wa, .int .i64 Ha, .slice p la.length c] ⟨false, 0⟩]
    have n7 : (M6 ++ [AObj.cells [.int .i64 Wa, .int .i64 Ha, .slice p la.length c] ⟨false, 0⟩]).length = M6.length + 1 := by simp
    generalize hM7 : M6 ++ [AObj.cells [.int .i64 Wa, .int .i64 Ha, .slice p la.length c] ⟨false, 0⟩] = M7 at g7 s7 n7
    have g8 := cells_new M7 [.int .i64 Wb, .int .i64 Hb, .slice q lb.length d] 0
    have s8 := same_app M7 [AObj.cells [.int .i64 Wb, .int .i64 Hb, .slice q lb.length d] ⟨false, 0⟩]
    have n8 : (M7 ++ [AObj.cells [.int .i64 Wb, .int .i64 Hb, .slice q lb.length d] ⟨false, 0⟩]).length = M7.length + 1 := by simp
    generalize hM8 : M7 ++ [AObj.cells [.int .i64 Wb, .int .i64 Hb, .slice q lb.length d] ⟨false, 0⟩] = M8 at g8 s8 n8
    simp only [Option.bind_some, anyOf?, leafV, if_true, funK_func, List.nil_append, List.cons_append]
    generalize hu : (Value.func (.func 28) #[] #[.pointer (some ⟨M6.length, 0, none⟩), .pointer (some ⟨M7.length, 0, none⟩)]) = u
    have s9 := same_app M8 [AObj.loop (lo13_16 .ready none M1.length Mp.length false M3.length u)]
    have lp9 : (M8 ++ [AObj.loop (lo13_16 .ready none M1.length Mp.length false M3.length u)])[M8.length]? = some (.loop (lo13_16 .ready none M1.length Mp.length false M3.length u)) := get_new _ _
    generalize hM9 : M8 ++ [AObj.loop (lo13_16 .ready none M1.length Mp.length false M3.length u)] = M9 at s9 lp9
    have hs9 : Same M M9 [] := (((hs6.trans s7).trans s8).trans s9).mono (by simp)
    have h69 : Same M6 M9 [] := ((s7.trans s8).trans s9).mono (by simp)
    have hpl := hp.lt (by omega)
    have hql := hq.lt (by omega)
    have hI : MxI M9 M8.length M1.length Mp.length M3.length M7.length M4.length u pt Wa Ha Wb Hb p q d la lb 0 M9 :=
      ⟨lp9, by
        have := g56.same h69 (by simp)
        simpa [mixL] using this, (gp6.same h69 (by simp)).rd, (w2'.same h69 (by simp)).rd, (g8.same s9 (by simp)).rd, hp.same hs9 (by simp), hq.same hs9 (by simp), .refl _ _⟩
    obtain ⟨M10, k1, k2⟩ := pairs_loop (cp := c) hn hle.2 (fun i M' => MxI M9 M8.length M1.length Mp.length M3.length M7.length M4.length u pt Wa Ha Wb Hb p q d la lb i M')
      (fun i M' h => ⟨h.b2, h.r1, h.r2⟩) (fun i M' M'' h s => h.st s)
      (fun i x y M' h hx hy => mx_step hn hle.2 hf.2.1.1 hf.2.2.1 ⟨hp0, hp1⟩ (by omega) (by omega) (fun b hb => by have := hpl b hb; omega) (fun b hb => by have := hql b hb; omega) h hx hy)
      la.length 0 M9 (by omega) hI
    rw [L_call28, E28]
    have x2 : AMem.ld M9 M6.length 2 = some (.slice p la.length c) := ((g7.same s8 (by simp)).same s9 (by simp)).ld 2
    have k1' : P28_3 LL M8.length M7.length p la.length c (la.length : Int) 0 M9 = some (.tuple #[], M10) := k1
    simp only [x2, sliceOf_slice, Option.bind_some, ofN, k1']
    rw [rangeK_normal k2.lp (by simp [lo13_16]) rfl, P13_37_eq]
    have s11 := same_set M10 M8.length .dead
    have o11 := k2.out.same s11 (by simp; omega)
    rw [List.take_length, hn, List.take_length, Nat.sub_self, List.replicate_zero, List.append_nil] at o11
    have h811 := k2.h8.same s11 (by simp; omega)
    have g211 := ((g26.same h69 (by simp)).same k2.same (by simp; omega)).same s11 (by simp; omega)
    generalize hM11 : M10.set M8.length .dead = M11 at s11 o11 h811 g211
    obtain ⟨M12, t1, t2, t3, _⟩ := g211.wr (o := 0) (vs := [.int .i64 Wa, .int .i64 Ha, .slice (some ⟨M4.length, 0, none⟩) la.length 3]) (by simp)
    have t2' : Cells M12 Mp.length [.int .i64 Wa, .int .i64 Ha, .slice (some ⟨M4.length, 0, none⟩) la.length 3] := by simpa [wrL] using t2
    obtain ⟨y0, y1, y2⟩ := picV_ld h811
    obtain ⟨v0, v1, v2⟩ := picV_ld t2'.rd
    refine ⟨M12, M4.length, ?_, o11.same t3 (by simp; omega), ?_, by omega⟩
    · simp only [y0, y1, y2, intOf_int, sliceOf_slice, Option.bind_some, t1, v0, v1, v2]
    · refine (((hs9.trans k2.same).trans s11).trans t3).mono' fun b hb hlt => ?_
      simp at hb
      omega
  · obtain ⟨M9, w1, ⟨v0, v1, v2⟩, hs9⟩ := bad
    refine ⟨M9, ?_, hs9⟩
    by_cases h1 : Fit2 Wa Ha Wb Hb la lb
    · by_cases h2 : pt < 0
      · simp only [h1, decide_true, Bool.not_true, Bool.false_eq_true, if_false, p3, intOf_int, Option.bind_some, h2, if_true, w1, v0, v1, v2, sliceOf_slice]
      · have h3 : pt > 1000 := by
          refine Int.lt_of_not_ge fun h => hf ⟨h1, by omega, h⟩
        simp only [h1, decide_true, decide_false, Bool.not_true, Bool.false_eq_true, if_false, p3, intOf_int, Option.bind_some, h2, h3, if_true, w1, v0, v1, v2, sliceOf_slice]
    · simp only [h1, decide_false, Bool.not_false, if_true, w1, v0, v1, v2, intOf_int, sliceOf_slice, Option.bind_some]

end Go.Proofs.Ytkjgmcjdblhkeaa
