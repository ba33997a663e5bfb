/- The document's places and pictures (skylightref49): Where, Apply, Mix. -/
import Derived.Test.YtkjgmcjdblhkeaaDiffR
set_option linter.unusedVariables false
set_option linter.unusedSimpArgs false
namespace Go.Proofs.Ytkjgmcjdblhkeaa
open Go Go.Ax

theorem rwhere_loop {Wa Ha Wb Hb : Int} {x2 x3 : Nat} {p q : Option Addr} {cp cq : Nat} {la lb : List Px} (hla : la.length ≤ 65536) (hf : Fit2 Wa Ha Wb Hb la lb) {M0 : AMem} (hx : x2 < M0.length ∧ x3 < M0.length) (hb : (∀ b ∈ blk p, b < M0.length) ∧ (∀ b ∈ blk q, b < M0.length)) :
    ∀ (d i : Nat) (M : AMem) (o : Option Addr) (oc : Nat), i + d = la.length → IsPic M x2 Wa Ha p cp la → IsPic M x3 Wb Hb q cq lb → Same M0 M [] → (∀ b ∈ blk o, M0.length ≤ b) →
      Slc M 1 o (whL 0 (la.take i) (lb.take i)).length oc (ints .i64 (whL 0 (la.take i) (lb.take i))) →
      ∃ M' o' oc', P10_8 LL x2 x3 o (whL 0 (la.take i) (lb.take i)).length oc (i : Int) M = some (.slice o' (whL 0 la lb).length oc', M') ∧ Slc M' 1 o' (whL 0 la lb).length oc' (ints .i64 (whL 0 la lb)) ∧ Same M0 M' [] ∧ (∀ b ∈ blk o', M0.length ≤ b) := by
  have hn := hf.len
  intro d
  induction d with
  | zero =>
    intro i M o oc hi ha hbp hs ho hc
    obtain rfl : i = la.length := by omega
    rw [List.take_length, hn, List.take_length] at hc ⊢
    obtain ⟨_, _, a2⟩ := picV_ld ha.hd
    refine ⟨M, o, oc, ?_, hc, hs, ho⟩
    rw [P10_8_eq LL L_loop]
    have : ¬ ((lb.length : Int) < Int.ofNat la.length) := by rw [ofN]; omega
    simp only [a2, sliceOf_slice, Option.bind_some, this, decide_false, Bool.false_eq_true, if_false, P10_23_eq]
  | succ d ih =>
    intro i M o oc hi ha hbp hs ho hc
    have hia : i < la.length := by omega
    have hib : i < lb.length := by omega
    obtain ⟨a0, a1, a2⟩ := picV_ld ha.hd
    obtain ⟨b0, b1, b2⟩ := picV_ld hbp.hd
    obtain ⟨M1, e1, s1⟩ := fit49_spec (Wa := Wa) (Ha := Ha) (Wb := Wb) (Hb := Hb) (c := cp) (d := cq) (by omega) (by omega) ha.px hbp.px
    unfold picV at e1
    have ha1 := ha.st s1
    have hb1 := hbp.st s1
    obtain ⟨_, _, c2⟩ := picV_ld ha1.hd
    obtain ⟨_, _, d2⟩ := picV_ld hb1.hd
    obtain ⟨a, rfl, pa⟩ := ha1.px.2 (by omega)
    obtain ⟨b, rfl, pb⟩ := hb1.px.2 (by omega)
    obtain ⟨x, hx'⟩ : ∃ x, la[i]? = some x := ⟨_, List.getElem?_eq_getElem hia⟩
    obtain ⟨y, hy'⟩ : ∃ y, lb[i]? = some y := ⟨_, List.getElem?_eq_getElem hib⟩
    obtain ⟨e0, e1', e2⟩ := px_ld pa hx'
    obtain ⟨f0, f1, f2⟩ := px_ld pb hy'
    have hlt1 : (i : Int) < Int.ofNat la.length := by rw [ofN]; omega
    have hlt2 : (i : Int) < Int.ofNat lb.length := by rw [ofN]; omega
    have hz : (0 : Int) ≤ (i : Int) := by omega
    have hw : IntKind.wrap .i64 ((i : Int) + 1) = ((i + 1 : Nat) : Int) := by rw [w64 (by omega)]; rfl
    have tk : whL 0 (la.take (i + 1)) (lb.take (i + 1)) = whL 0 (la.take i) (lb.take i) ++ if x = y then [] else [((i : Nat) : Int)] := by
      rw [take_snoc hx', take_snoc hy', whL_snoc x y 0 _ _ (by simp [hn])]
      simp [Nat.min_eq_left (Nat.le_of_lt hia)]
    have hc1 := hc.same s1 (by simp)
    have hs1 : Same M0 M1 [] := (hs.trans s1).mono (by simp)
    have hf' : decide (Fit2 Wa Ha Wb Hb la lb) = true := decide_eq_true hf
    rw [P10_8_eq LL L_loop]
    by_cases e : x = y
    · rw [if_pos e, List.append_nil] at tk
      rw [← tk] at hc1 ⊢
      obtain ⟨M', o', oc', r1, r2, r3, r4⟩ := ih (i + 1) M1 o oc (by omega) ha1 hb1 hs1 ho hc1
      refine ⟨M', o', oc', ?_, r2, r3, r4⟩
      simp only [a0, a1, a2, b0, b1, b2, intOf_int, sliceOf_slice, Option.bind_some, hlt1, hlt2, hz, and_self, decide_true, if_true, e1, boolOf_bool, hf', c2, d2, Nat.zero_add, Int.toNat_natCast, e0, e1', e2, f0, f1, f2, px_beq, e, Bool.not_true, Bool.false_eq_true, if_false, P10_22_eq, hw]
      exact r1
    · rw [if_neg e] at tk
      have hwl : (whL 0 (la.take i) (lb.take i)).length ≤ 65536 := by
        have := whL_length 0 (la.take i) (lb.take i)
        simp at this; omega
      obtain ⟨M3, k1, k2, k3⟩ := grn_row (bytes := 8) (new := [.int .i64 (i : Int)]) (m := 1) (v := 0) hc1 rfl (by omega) (by omega)
      have hrow := rowOf_new M1 1 1 [.int .i64 (i : Int)] 0 1 rfl
      have l1 := s1.le
      have l0 := hs.le
      have hk : Same M1 M3 (blk o) := k3.same
      have hs3 : Same M0 M3 [] := (hs1.trans hk).mono' (fun z hz hlt => by
        simp at hz; have := ho z hz; omega)
      have ha3 : IsPic M3 x2 Wa Ha (some ⟨a, 0, none⟩) cp la := ⟨ha1.hd.same hk (fun h => by have := ho _ h; omega), ha1.px.same hk (fun z hz h => by have := ho _ h; have := hb.1 z hz; omega)⟩
      have hb3 : IsPic M3 x3 Wb Hb (some ⟨b, 0, none⟩) cq lb := ⟨hb1.hd.same hk (fun h => by have := ho _ h; omega), hb1.px.same hk (fun z hz h => by have := ho _ h; have := hb.2 z hz; omega)⟩
      have hc3 : Slc M3 1 (some ⟨M1.length + 1, 0, none⟩) (whL 0 (la.take (i + 1)) (lb.take (i + 1))).length 1 (ints .i64 (whL 0 (la.take (i + 1)) (lb.take (i + 1)))) := by
        rw [tk, List.length_append, List.length_singleton]
        simpa [ints] using k2
      obtain ⟨M', o', oc', r1, r2, r3, r4⟩ := ih (i + 1) M3 _ _ (by omega) ha3 hb3 hs3 (by simp; omega) hc3
      refine ⟨M', o', oc', ?_, r2, r3, r4⟩
      rw [tk, List.length_append, List.length_singleton] at r1
      simp only [a0, a1, a2, b0, b1, b2, intOf_int, sliceOf_slice, Option.bind_some, hlt1, hlt2, hz, and_self, decide_true, if_true, e1, boolOf_bool, hf', c2, d2, Nat.zero_add, Int.toNat_natCast, e0, e1', e2, f0, f1, f2, px_beq, e, decide_false, Bool.not_false, hrow, k1, P10_22_eq, hw]
      exact r1

theorem rwhere_spec {Wa Ha Wb Hb : Int} {p q : Option Addr} {c d : Nat} {la lb : List Px} (hla : la.length ≤ 9223372036854775807) (hlb : lb.length ≤ 9223372036854775807) {M : AMem} (hp : RdL M encP p la.length la) (hq : RdL M encP q lb.length lb) :
    ∃ M' o oc, LL.call 10 [picV Wa Ha p la.length c, picV Wb Hb q lb.length d] M = some (.slice o (if Fit2 Wa Ha Wb Hb la lb then whL 0 la lb else []).length oc, M') ∧
      Slc M' 1 o (if Fit2 Wa Ha Wb Hb la lb then whL 0 la lb else []).length oc (ints .i64 (if Fit2 Wa Ha Wb Hb la lb then whL 0 la lb else [])) ∧ Same M M' [] ∧ (∀ b ∈ blk o, M.length ≤ b) := by
  rw [L_call10]
  unfold picV
  rw [E10]
  have g0 := cells_new M [.int .i64 Wa, .int .i64 Ha, .slice p la.length c] 0
  have s0 := same_app M [AObj.cells [.int .i64 Wa, .int .i64 Ha, .slice p la.length c] ⟨false, 0⟩]
  have n0 : (M ++ [AObj.cells [.int .i64 Wa, .int .i64 Ha, .slice p la.length c] ⟨false, 0⟩]).length = M.length + 1 := by simp
  generalize hM0 : M ++ [AObj.cells [.int .i64 Wa, .int .i64 Ha, .slice p la.length c] ⟨false, 0⟩] = M0 at g0 s0 n0
  have g1 := cells_new M0 [.int .i64 Wb, .int .i64 Hb, .slice q lb.length d] 0
  have s1 := same_app M0 [AObj.cells [.int .i64 Wb, .int .i64 Hb, .slice q lb.length d] ⟨false, 0⟩]
  have n1 : (M0 ++ [AObj.cells [.int .i64 Wb, .int .i64 Hb, .slice q lb.length d] ⟨false, 0⟩]).length = M0.length + 1 := by simp
  generalize hM1 : M0 ++ [AObj.cells [.int .i64 Wb, .int .i64 Hb, .slice q lb.length d] ⟨false, 0⟩] = M1 at g1 s1 n1
  have hs : Same M M1 [] := (s0.trans s1).mono (by simp)
  have a : IsPic M1 M.length Wa Ha p c la := ⟨(g0.same s1 (by simp)).rd, hp.same hs (by simp)⟩
  have b : IsPic M1 M0.length Wb Hb q d lb := ⟨g1.rd, hq.same hs (by simp)⟩
  by_cases hf : Fit2 Wa Ha Wb Hb la lb
  · have hle := hf.2.1.len
    have hn := hf.len
    have hpl := hp.lt (by omega)
    have hql := hq.lt (by omega)
    obtain ⟨M', o', oc', r1, r2, r3, r4⟩ := rwhere_loop hle.2 hf (M0 := M1) ⟨by omega, by omega⟩ ⟨fun z hz => by have := hpl z hz; omega, fun z hz => by have := hql z hz; omega⟩ la.length 0 M1 none 0 (by omega) a b (.refl _ _) (by simp) (by simpa [whL, ints] using Slc.nil M1 1 0)
    simp only [if_pos hf]
    exact ⟨M', o', oc', r1, r2, (hs.trans r3).mono (by simp), fun z hz => by have := r4 z hz; omega⟩
  · simp only [if_neg hf]
    obtain ⟨a0, a1, a2⟩ := picV_ld a.hd
    obtain ⟨b0, b1, b2⟩ := picV_ld b.hd
    obtain ⟨M2, e2, s2⟩ := fit49_spec (Wa := Wa) (Ha := Ha) (Wb := Wb) (Hb := Hb) (c := c) (d := d) hla hlb a.px b.px
    unfold picV at e2
    rw [P10_8_eq LL L_loop]
    by_cases h0 : (0 : Int) < Int.ofNat la.length
    · refine ⟨M2, none, 0, ?_, .nil _ _ _, (hs.trans s2).mono (by simp), by simp⟩
      simp only [a0, a1, a2, b0, b1, b2, intOf_int, sliceOf_slice, Option.bind_some, h0, decide_true, if_true, e2, boolOf_bool, hf, decide_false, Bool.false_eq_true, if_false, P10_23_eq]
      rfl
    · refine ⟨M1, none, 0, ?_, .nil _ _ _, hs, by simp⟩
      simp only [a2, sliceOf_slice, Option.bind_some, h0, decide_false, Bool.false_eq_true, if_false, P10_23_eq]
      rfl

/-! ### Apply -/

theorem rapply_in {x3 x5 x6 x8 z : Nat} {w q : Option Addr} {wc : Nat} {Wb Hb : Int} {cq : Nat} {lb : List Px} {lw : List Int} {i : Nat} {x y : Px} (hlw : lw.length ≤ 65536) {M0 : AMem} (hy : lb[i]? = some y) :
    ∀ (d j : Nat) (M : AMem), j + d = lw.length → Same M0 M [] → M0.length ≤ z → Rd M0 x5 [.int .i64 Wb, .int .i64 Hb, .slice q lb.length cq] → RdL M0 encP q lb.length lb → RdI M0 .i64 w lw.length lw →
      Cells M z (encP (if (i : Int) ∈ lw.take j then y else x)) →
      ∃ M', P12_31 LL w lw.length wc x3 x5 x6 x8 (i : Int) z (j : Int) M = P12_46 LL w lw.length wc x3 x5 x6 x8 (i : Int) z M' ∧ Cells M' z (encP (if (i : Int) ∈ lw then y else x)) ∧ Same M0 M' [] := by
  intro d
  induction d with
  | zero =>
    intro j M hj hs hz h5 hq hw hc
    obtain rfl : j = lw.length := by omega
    rw [List.take_length] at hc
    refine ⟨M, ?_, hc, hs⟩
    rw [P12_31_eq LL L_loop]
    have : ¬ ((lw.length : Int) < Int.ofNat lw.length) := by rw [ofN]; omega
    simp only [this, decide_false, Bool.false_eq_true, if_false]
  | succ d ih =>
    intro j M hj hs hz h5 hq hw hc
    have hjl : j < lw.length := by omega
    obtain ⟨aw, rfl, haw⟩ := hw.2 (by omega)
    obtain ⟨n, hn⟩ : ∃ n, lw[j]? = some n := ⟨_, List.getElem?_eq_getElem hjl⟩
    have hib := (List.getElem?_eq_some_iff.1 hy).1
    obtain ⟨b, rfl, hb⟩ := hq.2 (by omega)
    have ew : M.ld aw j = some (.int .i64 n) := by rw [(haw.same hs (by simp)).ld, ints_get, hn]; rfl
    have e5 : M.ld x5 2 = some (.slice (some ⟨b, 0, none⟩) lb.length cq) := (h5.same hs (by simp)).ld 2
    obtain ⟨f0, f1, f2⟩ := px_ld (hb.same hs (by simp)) hy
    have hlt : (j : Int) < Int.ofNat lw.length := by rw [ofN]; omega
    have hj0 : (0 : Int) ≤ (j : Int) := by omega
    have hi0 : (0 : Int) ≤ (i : Int) := by omega
    have hi1 : (i : Int) < Int.ofNat lb.length := by rw [ofN]; omega
    have hwj : IntKind.wrap .i64 ((j : Int) + 1) = ((j + 1 : Nat) : Int) := by rw [w64 (by omega)]; rfl
    have tk := take_snoc hn
    by_cases e : n = (i : Int)
    · obtain ⟨M1, w1, w2, w3, w4⟩ := hc.wr (o := 0) (vs := encP y) (by simp [encP])
      have w2' : Cells M1 z (encP (if (i : Int) ∈ lw.take (j + 1) then y else x)) := by
        have : (i : Int) ∈ lw.take (j + 1) := by rw [tk, e]; simp
        rw [if_pos this]
        simpa [wrL, encP] using w2
      unfold encP at w1
      obtain ⟨M', r1, r2, r3⟩ := ih (j + 1) M1 (by omega) ((hs.trans w3).mono' (by simp; omega)) hz h5 hq hw w2'
      refine ⟨M', ?_, r2, r3⟩
      rw [P12_31_eq LL L_loop]
      simp only [hlt, hj0, hi0, hi1, and_self, decide_true, if_true, Nat.zero_add, Int.toNat_natCast, Nat.mul_one, ew, intOf_int, Option.bind_some, e, beq_self_eq_true, e5, sliceOf_slice, f0, f1, f2, w1, P12_45_eq, hwj]
      exact r1
    · have hc' : Cells M z (encP (if (i : Int) ∈ lw.take (j + 1) then y else x)) := by
        have : ((i : Int) ∈ lw.take (j + 1)) ↔ ((i : Int) ∈ lw.take j) := by
          rw [tk, List.mem_append, List.mem_singleton]
          exact ⟨fun h => h.resolve_right (fun h' => e h'.symm), .inl⟩
        simp only [this]
        exact hc
      obtain ⟨M', r1, r2, r3⟩ := ih (j + 1) M (by omega) hs hz h5 hq hw hc'
      refine ⟨M', ?_, r2, r3⟩
      rw [P12_31_eq LL L_loop]
      have hne : (n == (i : Int)) = false := by simp [e]
      simp only [hlt, hj0, and_self, decide_true, if_true, Nat.zero_add, Int.toNat_natCast, Nat.mul_one, ew, intOf_int, Option.bind_some, hne, Bool.false_eq_true, if_false, P12_45_eq, hwj]
      exact r1

theorem apL_take {la lb : List Px} {lw : List Int} {i : Nat} {x y : Px} (hn : la.length = lb.length) (hx : la[i]? = some x) (hy : lb[i]? = some y) : (apL 0 la lb lw).take (i + 1) = (apL 0 la lb lw).take i ++ [if (i : Int) ∈ lw then y else x] := by
  refine take_snoc ?_
  rw [apL_get 0 la lb lw i hn, Nat.zero_add, hx, hy]
  split <;> rfl

theorem rapply_loop {W H : Int} {x3 x5 x6 x8 : Nat} {p q w : Option Addr} {cp cq wc : Nat} {la lb : List Px} {lw : List Int} (hn : la.length = lb.length) (hl : 1 ≤ la.length ∧ la.length ≤ 65536) (hlw : lw.length ≤ 65536) {B : AMem} (ha : IsPic B x3 W H p cp la) (hb : IsPic B x5 W H q cq lb) (hw : RdI B .i64 w lw.length lw) (h6 : Cells B x6 [.int .i64 0, .int .i64 0, .slice none 0 0]) :
    ∀ (d i : Nat) (M : AMem), i + d = la.length → Out B M x8 W H ((apL 0 la lb lw).take i) →
      ∃ M' o oc, P12_16 LL w lw.length wc x3 x5 x6 x8 (i : Int) M = some (.tuple #[picV W H o la.length oc, .bool true], M') ∧ RdL M' encP o la.length (apL 0 la lb lw) ∧ Same B M' [x6] := by
  intro d
  induction d with
  | zero =>
    intro i M hi ho
    obtain rfl : i = la.length := by omega
    have hlen := apL_length 0 la lb lw hn
    rw [List.take_of_length_le (by omega)] at ho
    obtain ⟨o, oc, o1, o2, o3⟩ := ho.pic (by omega)
    rw [hlen] at o1 o2
    obtain ⟨e0, e1, e2⟩ := picV_ld o1.rd
    obtain ⟨_, _, a2⟩ := picV_ld (ha.st ho.same).hd
    have h6' := h6.same ho.same (by simp)
    obtain ⟨M1, w1, w2, w3, w4⟩ := h6'.wr (o := 0) (vs := [.int .i64 W, .int .i64 H, .slice o la.length oc]) (by simp)
    have w2' : Cells M1 x6 [.int .i64 W, .int .i64 H, .slice o la.length oc] := by simpa [wrL] using w2
    obtain ⟨f0, f1, f2⟩ := picV_ld w2'.rd
    have h6l := h6.lt
    refine ⟨M1, o, oc, ?_, o2.same w3 (fun z hz => by have := (o3 z hz).1; simp; omega), (ho.same.trans w3).mono (by simp)⟩
    rw [P12_16_eq LL L_loop]
    have : ¬ ((la.length : Int) < Int.ofNat la.length) := by rw [ofN]; omega
    simp only [a2, sliceOf_slice, Option.bind_some, this, decide_false, Bool.false_eq_true, if_false, P12_48_eq, e0, e1, e2, intOf_int, w1, f0, f1, f2]
    rfl
  | succ d ih =>
    intro i M hi ho
    have hia : i < la.length := by omega
    have hib : i < lb.length := by omega
    obtain ⟨_, _, a2⟩ := picV_ld (ha.st ho.same).hd
    obtain ⟨a, rfl, pa⟩ := (ha.st ho.same).px.2 (by omega)
    obtain ⟨x, hx⟩ : ∃ x, la[i]? = some x := ⟨_, List.getElem?_eq_getElem hia⟩
    obtain ⟨y, hy⟩ : ∃ y, lb[i]? = some y := ⟨_, List.getElem?_eq_getElem hib⟩
    obtain ⟨e0, e1, e2⟩ := px_ld pa hx
    obtain ⟨M1, w1, w2, w3, w4⟩ := wr_new M [.int .i64 0, .int .i64 0, .int .i64 0] (encP x) 0 rfl
    unfold encP at w1
    obtain ⟨M2, k1, k2, k3⟩ := rapply_in (x3 := x3) (x5 := x5) (x6 := x6) (x8 := x8) (z := M.length) (w := w) (wc := wc) (x := x) hlw (M0 := M) hy lw.length 0 M1 (by omega) w3 (Nat.le_refl _) (hb.st ho.same).hd (hb.st ho.same).px (hw.same ho.same (by simp)) (by simpa using w2)
    obtain ⟨o, oc, M9, M10, t1, t2, t3, t4, t5⟩ := out_app (ho.st k3) (by simp; omega) (if (i : Int) ∈ lw then y else x)
    rw [← apL_take hn hx hy] at t5
    obtain ⟨M', o', oc', r1, r2, r3⟩ := ih (i + 1) M10 (by omega) t5
    refine ⟨M', o', oc', ?_, r2, r3⟩
    have hlt1 : (i : Int) < Int.ofNat la.length := by rw [ofN]; omega
    have hz : (0 : Int) ≤ (i : Int) := by omega
    have hwi : IntKind.wrap .i64 ((i : Int) + 1) = ((i + 1 : Nat) : Int) := by rw [w64 (by omega)]; rfl
    have c0 : AMem.ld M2 M.length 0 = some (.int .i64 (if (i : Int) ∈ lw then y else x).r) := k2.ld 0
    have c1 : AMem.ld M2 M.length 1 = some (.int .i64 (if (i : Int) ∈ lw then y else x).g) := k2.ld 1
    have c2 : AMem.ld M2 M.length 2 = some (.int .i64 (if (i : Int) ∈ lw then y else x).b) := k2.ld 2
    rw [P12_16_eq LL L_loop]
    rw [show ((0 : Nat) : Int) = 0 from rfl] at k1
    simp only [↓bLS a2, ↓ifD hlt1, hlt1, hz, and_self, if_true, Nat.zero_add, Int.toNat_natCast, e0, e1, e2, intOf_int, Option.bind_some, w1, k1, P12_46_eq]
    simp only [↓bLS t1, ↓bLI c0, ↓bLI c1, ↓bLI c2, ↓bX t2, t3, ↓bX t4, P12_47_eq, hwi]
    exact r1

theorem rapply_spec {Wa Ha Wb Hb : Int} {p q w : Option Addr} {c d wc : Nat} {la lb : List Px} {lw : List Int} (hla : la.length ≤ 9223372036854775807) (hlb : lb.length ≤ 9223372036854775807) (hlw : lw.length ≤ 65536) {M : AMem} (hp : RdL M encP p la.length la) (hq : RdL M encP q lb.length lb) (hw : RdI M .i64 w lw.length lw) :
    (Fit2 Wa Ha Wb Hb la lb → ∃ M' o oc, LL.call 12 [picV Wa Ha p la.length c, .slice w lw.length wc, picV Wb Hb q lb.length d] M = some (.tuple #[picV Wa Ha o la.length oc, .bool true], M') ∧ RdL M' encP o la.length (apL 0 la lb lw) ∧ Same M M' []) ∧
    (¬ Fit2 Wa Ha Wb Hb la lb → ∃ M', LL.call 12 [picV Wa Ha p la.length c, .slice w lw.length wc, picV Wb Hb q lb.length d] M = some (.tuple #[picV 0 0 none 0 0, .bool false], M') ∧ Same M M' []) := by
  rw [L_call12]
  unfold picV
  rw [E12]
  have g0 := cells_new M [.int .i64 Wa, .int .i64 Ha, .slice p la.length c] 0
  have s0 := same_app M [AObj.cells [.int .i64 Wa, .int .i64 Ha, .slice p la.length c] ⟨false, 0⟩]
  have n0 : (M ++ [AObj.cells [.int .i64 Wa, .int .i64 Ha, .slice p la.length c] ⟨false, 0⟩]).length = M.length + 1 := by simp
  generalize hM0 : M ++ [AObj.cells [.int .i64 Wa, .int .i64 Ha, .slice p la.length c] ⟨false, 0⟩] = M0 at g0 s0 n0
  have g1 := cells_new M0 [.int .i64 Wb, .int .i64 Hb, .slice q lb.length d] 0
  have s1 := same_app M0 [AObj.cells [.int .i64 Wb, .int .i64 Hb, .slice q lb.length d] ⟨false, 0⟩]
  have n1 : (M0 ++ [AObj.cells [.int .i64 Wb, .int .i64 Hb, .slice q lb.length d] ⟨false, 0⟩]).length = M0.length + 1 := by simp
  generalize hM1 : M0 ++ [AObj.cells [.int .i64 Wb, .int .i64 Hb, .slice q lb.length d] ⟨false, 0⟩] = M1 at g1 s1 n1
  have g2 := cells_new M1 [.int .i64 0, .int .i64 0, .slice none 0 0] 0
  have s2 := same_app M1 [AObj.cells [.int .i64 0, .int .i64 0, .slice none 0 0] ⟨false, 0⟩]
  have n2 : (M1 ++ [AObj.cells [.int .i64 0, .int .i64 0, .slice none 0 0] ⟨false, 0⟩]).length = M1.length + 1 := by simp
  generalize hM2 : M1 ++ [AObj.cells [.int .i64 0, .int .i64 0, .slice none 0 0] ⟨false, 0⟩] = M2 at g2 s2 n2
  have hs : Same M M2 [] := ((s0.trans s1).trans s2).mono (by simp)
  have a : IsPic M2 M.length Wa Ha p c la := ⟨((g0.same s1 (by simp)).same s2 (by simp)).rd, hp.same hs (by simp)⟩
  have b : IsPic M2 M0.length Wb Hb q d lb := ⟨(g1.same s2 (by simp)).rd, hq.same hs (by simp)⟩
  obtain ⟨a0, a1, a2⟩ := picV_ld a.hd
  obtain ⟨b0, b1, b2⟩ := picV_ld b.hd
  obtain ⟨M3, e3, s3⟩ := fit49_spec (Wa := Wa) (Ha := Ha) (Wb := Wb) (Hb := Hb) (c := c) (d := d) hla hlb a.px b.px
  unfold picV at e3
  have hs3 : Same M M3 [] := (hs.trans s3).mono (by simp)
  have l3 := s3.le
  simp only [↓bLI a0, ↓bLI a1, ↓bLS a2, ↓bLI b0, ↓bLI b1, ↓bLS b2, ↓bX e3, ↓bB]
  refine ⟨fun hf => ?_, fun hf => ?_⟩
  · have hn := hf.len
    have hle := hf.2.1.len
    obtain ⟨⟨rfl, rfl⟩, hpa, hpb⟩ := hf
    have hf : decide (Fit2 Wa Ha Wa Ha la lb) = true := decide_eq_true ⟨⟨rfl, rfl⟩, hpa, hpb⟩
    obtain ⟨c0, c1, _⟩ := picV_ld (a.st s3).hd
    obtain ⟨M4, w1, w2, w3, w4⟩ := wr_new M3 [.int .i64 0, .int .i64 0, .slice none 0 0] [.int .i64 Wa, .int .i64 Ha, .slice none 0 0] 0 rfl
    have ho : Out M3 M4 M3.length Wa Ha ((apL 0 la lb lw).take 0) := ⟨⟨none, 0, by simpa using w2, by simpa using Slc.nil M4 3 0, by simp⟩, w3, Nat.le_refl _⟩
    obtain ⟨M', o, oc, r1, r2, r3⟩ := rapply_loop (wc := wc) hn hle hlw (a.st s3) (b.st s3) (hw.same hs3 (by simp)) (g2.same s3 (by simp)) la.length 0 M4 (by omega) ho
    refine ⟨M', o, oc, ?_, r2, (hs3.trans r3).mono' (by simp; omega)⟩
    simp only [hf, ↓ifNT, ↓bLI c0, ↓bLI c1, ↓bX w1]
    exact r1
  · have hf' : decide (Fit2 Wa Ha Wb Hb la lb) = false := decide_eq_false hf
    obtain ⟨M5, y1, y2, y3, y4⟩ := (g2.same s3 (by simp)).wr (o := 0) (vs := [.int .i64 0, .int .i64 0, .slice none 0 0]) (by simp)
    have y2' : Cells M5 M1.length [.int .i64 0, .int .i64 0, .slice none 0 0] := by simpa [wrL] using y2
    obtain ⟨v0, v1, v2⟩ := picV_ld y2'.rd
    refine ⟨M5, ?_, (hs3.trans y3).mono' (by simp; omega)⟩
    simp only [hf', ↓ifNF, ↓bX y1, ↓bLI v0, ↓bLI v1, ↓bLS v2]

/-! ### Mix -/

theorem rmix_in {x3 x4 x6 x8 z : Nat} {pt : Int} {a b cp cq : Nat} {Wa Ha Wb Hb : Int} {la lb : List Px} {i : Nat} {x y o : Px} {M0 : AMem} {c : Nat} (hc : c < 3) (h3 : Rd M0 x3 [.int .i64 Wa, .int .i64 Ha, .slice (some ⟨a, 0, none⟩) la.length cp]) (h4 : Rd M0 x4 [.int .i64 Wb, .int .i64 Hb, .slice (some ⟨b, 0, none⟩) lb.length cq])
    (ha : Rd M0 a (la.flatMap encP)) (hb : Rd M0 b (lb.flatMap encP)) (hx : la[i]? = some x) (hy : lb[i]? = some y) (fx : x.fit) (fy : y.fit) (bp : 0 ≤ pt ∧ pt ≤ 1000) (hz : M0.length ≤ z) {M : AMem} (hs : Same M0 M []) (hc0 : Cells M z (encP o)) :
    ∃ M', P14_31 LL pt x3 x4 x6 x8 (i : Int) z (c : Int) M = P14_31 LL pt x3 x4 x6 x8 (i : Int) z ((c + 1 : Nat) : Int) M' ∧ Cells M' z (encP (o.upd c (mixN pt (chn x c) (chn y c)))) ∧ Same M0 M' [] := by
  have eu := px_ldc (ha.same hs (by simp)) hx hc
  have ew := px_ldc (hb.same hs (by simp)) hy hc
  have bu := chn_fit fx c
  have bw := chn_fit fy c
  generalize chn x c = u at eu bu ⊢
  generalize chn y c = w at ew bw ⊢
  have e3 : M.ld x3 2 = some (.slice (some ⟨a, 0, none⟩) la.length cp) := (h3.same hs (by simp)).ld 2
  have e4' : M.ld x4 2 = some (.slice (some ⟨b, 0, none⟩) lb.length cq) := (h4.same hs (by simp)).ld 2
  have hia := (List.getElem?_eq_some_iff.1 hx).1
  have hib := (List.getElem?_eq_some_iff.1 hy).1
  have a1 : 0 ≤ u * (1000 - pt) := Int.mul_nonneg bu.1 (by omega)
  have a2 : u * (1000 - pt) ≤ 255 * 1000 := Int.mul_le_mul bu.2 (by omega) (by omega) (by omega)
  have a3 : 0 ≤ w * pt := Int.mul_nonneg bw.1 bp.1
  have a4 : w * pt ≤ 255 * 1000 := Int.mul_le_mul bw.2 bp.2 (by omega) (by omega)
  have k1 : IntKind.wrap .i64 (1000 - pt) = 1000 - pt := w64 (by omega)
  have k2 : IntKind.wrap .i64 (u * (1000 - pt)) = u * (1000 - pt) := w64 (by omega)
  have k3 : IntKind.wrap .i64 (w * pt) = w * pt := w64 (by omega)
  have k4 : IntKind.wrap .i64 (u * (1000 - pt) + w * pt) = u * (1000 - pt) + w * pt := w64 (by omega)
  have k5 : LL.call 23 [.int .i64 (u * (1000 - pt) + w * pt), .int .i64 1000] [] = some (.int .i64 (mixN pt u w), []) := div01_spec (by omega) (by omega)
  obtain ⟨M1, w1, w2, w3, w4⟩ := hc0.wr (o := c) (vs := [.int .i64 (mixN pt u w)]) (by simp [encP]; omega)
  have w2' : Cells M1 z (encP (o.upd c (mixN pt u w))) := by
    rw [encP_upd o hc]
    simpa [wrL] using w2
  refine ⟨M1, ?_, w2', (hs.trans w3).mono' (by simp; omega)⟩
  rw [P14_31_eq LL L_loop]
  have hlt : (c : Int) < 3 := by omega
  have h0 : (0 : Int) ≤ (c : Int) := by omega
  have i0 : (0 : Int) ≤ (i : Int) := by omega
  have i1 : (i : Int) < Int.ofNat la.length := by rw [ofN]; omega
  have i2 : (i : Int) < Int.ofNat lb.length := by rw [ofN]; omega
  have wc : IntKind.wrap .i64 ((c : Int) + 1) = ((c + 1 : Nat) : Int) := by rw [w64 (by omega)]; rfl
  simp only [hlt, h0, i0, i1, i2, and_self, decide_true, if_true, Int.toNat_natCast, Nat.mul_one, Nat.zero_add, e3, e4', sliceOf_slice, Option.bind_some, eu, ew, intOf_int, k1, k2, k3, k4, k5, w1, P14_41_eq, wc]

theorem mixL_take {la lb : List Px} {pt : Int} {i : Nat} {x y : Px} (hx : la[i]? = some x) (hy : lb[i]? = some y) : (mixL pt la lb).take (i + 1) = (mixL pt la lb).take i ++ [mixP pt x y] := by
  refine take_snoc ?_
  unfold mixL
  rw [List.getElem?_zipWith, hx, hy]

theorem rmix_loop {W H pt : Int} {x3 x4 x6 x8 : Nat} {p q : Option Addr} {cp cq : Nat} {la lb : List Px} (hn : la.length = lb.length) (hl : 1 ≤ la.length ∧ la.length ≤ 65536) (bp : 0 ≤ pt ∧ pt ≤ 1000) (fa : ∀ x ∈ la, x.fit) (fb : ∀ x ∈ lb, x.fit) {B : AMem} (ha : IsPic B x3 W H p cp la) (hb : IsPic B x4 W H q cq lb) (h6 : Cells B x6 [.int .i64 0, .int .i64 0, .slice none 0 0]) :
    ∀ (d i : Nat) (M : AMem), i + d = la.length → Out B M x8 W H ((mixL pt la lb).take i) →
      ∃ M' o oc, P14_16 LL pt x3 x4 x6 x8 (i : Int) M = some (.tuple #[picV W H o la.length oc, .bool true], M') ∧ RdL M' encP o la.length (mixL pt la lb) ∧ Same B M' [x6] := by
  have hlen : (mixL pt la lb).length = la.length := mixL_length hn
  intro d
  induction d with
  | zero =>
    intro i M hi ho
    obtain rfl : i = la.length := by omega
    rw [List.take_of_length_le (by omega)] at ho
    obtain ⟨o, oc, o1, o2, o3⟩ := ho.pic (by omega)
    rw [hlen] at o1 o2
    obtain ⟨e0, e1, e2⟩ := picV_ld o1.rd
    obtain ⟨_, _, a2⟩ := picV_ld (ha.st ho.same).hd
    have h6' := h6.same ho.same (by simp)
    obtain ⟨M1, w1, w2, w3, w4⟩ := h6'.wr (o := 0) (vs := [.int .i64 W, .int .i64 H, .slice o la.length oc]) (by simp)
    have w2' : Cells M1 x6 [.int .i64 W, .int .i64 H, .slice o la.length oc] := by simpa [wrL] using w2
    obtain ⟨f0, f1, f2⟩ := picV_ld w2'.rd
    have h6l := h6.lt
    refine ⟨M1, o, oc, ?_, o2.same w3 (fun z hz => by have := (o3 z hz).1; simp; omega), (ho.same.trans w3).mono (by simp)⟩
    rw [P14_16_eq LL L_loop]
    have : ¬ ((la.length : Int) < Int.ofNat la.length) := by rw [ofN]; omega
    simp only [a2, sliceOf_slice, Option.bind_some, this, decide_false, Bool.false_eq_true, if_false, P14_44_eq, e0, e1, e2, intOf_int, w1, f0, f1, f2]
    rfl
  | succ d ih =>
    intro i M hi ho
    have hia : i < la.length := by omega
    have hib : i < lb.length := by omega
    have ha' := ha.st ho.same
    have hb' := hb.st ho.same
    obtain ⟨_, _, a2⟩ := picV_ld ha'.hd
    obtain ⟨a, rfl, pa⟩ := ha'.px.2 (by omega)
    obtain ⟨b, rfl, pb⟩ := hb'.px.2 (by omega)
    obtain ⟨x, hx⟩ : ∃ x, la[i]? = some x := ⟨_, List.getElem?_eq_getElem hia⟩
    obtain ⟨y, hy⟩ : ∃ y, lb[i]? = some y := ⟨_, List.getElem?_eq_getElem hib⟩
    have fx := fa x (List.mem_of_getElem? hx)
    have fy := fb y (List.mem_of_getElem? hy)
    have s1 := same_app M [AObj.cells [.int .i64 0, .int .i64 0, .int .i64 0] ⟨false, 0⟩]
    have g1 : Cells (M ++ [AObj.cells [.int .i64 0, .int .i64 0, .int .i64 0] ⟨false, 0⟩]) M.length (encP pxz) := cells_new M _ 0
    obtain ⟨N1, p1, p2, p3⟩ := rmix_in (x6 := x6) (x8 := x8) (c := 0) (by omega) ha'.hd hb'.hd pa pb hx hy fx fy bp (Nat.le_refl _) s1 g1
    obtain ⟨N2, p4, p5, p6⟩ := rmix_in (x6 := x6) (x8 := x8) (c := 1) (by omega) ha'.hd hb'.hd pa pb hx hy fx fy bp (Nat.le_refl _) p3 p2
    obtain ⟨N3, p7, p8, p9⟩ := rmix_in (x6 := x6) (x8 := x8) (c := 2) (by omega) ha'.hd hb'.hd pa pb hx hy fx fy bp (Nat.le_refl _) p6 p5
    have hp8 : Cells N3 M.length (encP (mixP pt x y)) := p8
    obtain ⟨o, oc, M9, M10, t1, t2, t3, t4, t5⟩ := out_app (ho.st p9) (by simp; omega) (mixP pt x y)
    rw [← mixL_take hx hy] at t5
    obtain ⟨M', o', oc', r1, r2, r3⟩ := ih (i + 1) M10 (by omega) t5
    refine ⟨M', o', oc', ?_, r2, r3⟩
    have hlt1 : (i : Int) < Int.ofNat la.length := by rw [ofN]; omega
    have hwi : IntKind.wrap .i64 ((i : Int) + 1) = ((i + 1 : Nat) : Int) := by rw [w64 (by omega)]; rfl
    have c0 : AMem.ld N3 M.length 0 = some (.int .i64 (mixP pt x y).r) := hp8.ld 0
    have c1 : AMem.ld N3 M.length 1 = some (.int .i64 (mixP pt x y).g) := hp8.ld 1
    have c2 : AMem.ld N3 M.length 2 = some (.int .i64 (mixP pt x y).b) := hp8.ld 2
    have k1 := (p1.trans p4).trans p7
    rw [show ((0 : Nat) : Int) = 0 from rfl] at k1
    rw [P14_16_eq LL L_loop]
    simp only [↓bLS a2, ↓ifD hlt1]
    rw [k1, P14_31_eq LL L_loop]
    rw [ifDn (show ¬ (((2 + 1 : Nat) : Int) < 3) by omega), P14_42_eq]
    simp only [↓bLS t1, ↓bLI c0, ↓bLI c1, ↓bLI c2, ↓bX t2, t3, ↓bX t4, P14_43_eq, hwi]
    exact r1

theorem rmix_spec {Wa Ha Wb Hb pt : Int} {p q : Option Addr} {c d : Nat} {la lb : List Px} (hla : la.length ≤ 9223372036854775807) (hlb : lb.length ≤ 9223372036854775807) {M : AMem} (hp : RdL M encP p la.length la) (hq : RdL M encP q lb.length lb) :
    (Fit2 Wa Ha Wb Hb la lb ∧ 0 ≤ pt ∧ pt ≤ 1000 → ∃ M' o oc, LL.call 14 [picV Wa Ha p la.length c, picV Wb Hb q lb.length d, .int .i64 pt] M = some (.tuple #[picV Wa Ha o la.length oc, .bool true], M') ∧ RdL M' encP o la.length (mixL pt la lb) ∧ Same M M' []) ∧
    (¬ (Fit2 Wa Ha Wb Hb la lb ∧ 0 ≤ pt ∧ pt ≤ 1000) → ∃ M', LL.call 14 [picV Wa Ha p la.length c, picV Wb Hb q lb.length d, .int .i64 pt] M = some (.tuple #[picV 0 0 none 0 0, .bool false], M') ∧ Same M M' []) := by
  rw [L_call14]
  unfold picV
  rw [E14]
  have g0 := cells_new M [.int .i64 Wa, .int .i64 Ha, .slice p la.length c] 0
  have s0 := same_app M [AObj.cells [.int .i64 Wa, .int .i64 Ha, .slice p la.length c] ⟨false, 0⟩]
  have n0 : (M ++ [AObj.cells [.int .i64 Wa, .int .i64 Ha, .slice p la.length c] ⟨false, 0⟩]).length = M.length + 1 := by simp
  generalize hM0 : M ++ [AObj.cells [.int .i64 Wa, .int .i64 Ha, .slice p la.length c] ⟨false, 0⟩] = M0 at g0 s0 n0
  have g1 := cells_new M0 [.int .i64 Wb, .int .i64 Hb, .slice q lb.length d] 0
  have s1 := same_app M0 [AObj.cells [.int .i64 Wb, .int .i64 Hb, .slice q lb.length d] ⟨false, 0⟩]
  have n1 : (M0 ++ [AObj.cells [.int .i64 Wb, .int .i64 Hb, .slice q lb.length d] ⟨false, 0⟩]).length = M0.length + 1 := by simp
  generalize hM1 : M0 ++ [AObj.cells [.int .i64 Wb, .int .i64 Hb, .slice q lb.length d] ⟨false, 0⟩] = M1 at g1 s1 n1
  have g2 := cells_new M1 [.int .i64 0, .int .i64 0, .slice none 0 0] 0
  have s2 := same_app M1 [AObj.cells [.int .i64 0, .int .i64 0, .slice none 0 0] ⟨false, 0⟩]
  have n2 : (M1 ++ [AObj.cells [.int .i64 0, .int .i64 0, .slice none 0 0] ⟨false, 0⟩]).length = M1.length + 1 := by simp
  generalize hM2 : M1 ++ [AObj.cells [.int .i64 0, .int .i64 0, .slice none 0 0] ⟨false, 0⟩] = M2 at g2 s2 n2
  have hs : Same M M2 [] := ((s0.trans s1).trans s2).mono (by simp)
  have a : IsPic M2 M.length Wa Ha p c la := ⟨((g0.same s1 (by simp)).same s2 (by simp)).rd, hp.same hs (by simp)⟩
  have b : IsPic M2 M0.length Wb Hb q d lb := ⟨(g1.same s2 (by simp)).rd, hq.same hs (by simp)⟩
  obtain ⟨a0, a1, a2⟩ := picV_ld a.hd
  obtain ⟨b0, b1, b2⟩ := picV_ld b.hd
  obtain ⟨M3, e3, s3⟩ := fit49_spec (Wa := Wa) (Ha := Ha) (Wb := Wb) (Hb := Hb) (c := c) (d := d) hla hlb a.px b.px
  unfold picV at e3
  have hs3 : Same M M3 [] := (hs.trans s3).mono (by simp)
  have l3 := s3.le
  simp only [↓bLI a0, ↓bLI a1, ↓bLS a2, ↓bLI b0, ↓bLI b1, ↓bLS b2, ↓bX e3, ↓bB]
  refine ⟨fun hf => ?_, fun hf => ?_⟩
  · obtain ⟨hf, hp0, hp1⟩ := hf
    have hn := hf.len
    have hle := hf.2.1.len
    obtain ⟨⟨rfl, rfl⟩, hpa, hpb⟩ := hf
    have hf : decide (Fit2 Wa Ha Wa Ha la lb) = true := decide_eq_true ⟨⟨rfl, rfl⟩, hpa, hpb⟩
    obtain ⟨c0, c1, _⟩ := picV_ld (a.st s3).hd
    obtain ⟨M4, w1, w2, w3, w4⟩ := wr_new M3 [.int .i64 0, .int .i64 0, .slice none 0 0] [.int .i64 Wa, .int .i64 Ha, .slice none 0 0] 0 rfl
    have ho : Out M3 M4 M3.length Wa Ha ((mixL pt la lb).take 0) := ⟨⟨none, 0, by simpa using w2, by simpa using Slc.nil M4 3 0, by simp⟩, w3, Nat.le_refl _⟩
    obtain ⟨M', o, oc, r1, r2, r3⟩ := rmix_loop hn hle ⟨hp0, hp1⟩ hpa.1 hpb.1 (a.st s3) (b.st s3) (g2.same s3 (by simp)) la.length 0 M4 (by omega) ho
    refine ⟨M', o, oc, ?_, r2, (hs3.trans r3).mono' (by simp; omega)⟩
    have q0 : ¬ pt < 0 := by omega
    have q1 : ¬ pt > 1000 := by omega
    simp only [hf, ↓ifNT, ↓ifDn q0, ↓ifDn q1, ↓bLI c0, ↓bLI c1, ↓bX w1]
    exact r1
  · obtain ⟨M5, y1, y2, y3, y4⟩ := (g2.same s3 (by simp)).wr (o := 0) (vs := [.int .i64 0, .int .i64 0, .slice none 0 0]) (by simp)
    have y2' : Cells M5 M1.length [.int .i64 0, .int .i64 0, .slice none 0 0] := by simpa [wrL] using y2
    obtain ⟨v0, v1, v2⟩ := picV_ld y2'.rd
    refine ⟨M5, ?_, (hs3.trans y3).mono' (by simp; omega)⟩
    by_cases h1 : Fit2 Wa Ha Wb Hb la lb
    · have h1' : decide (Fit2 Wa Ha Wb Hb la lb) = true := decide_eq_true h1
      by_cases h2 : pt < 0
      · simp only [h1', ↓ifNT, ↓ifD h2, ↓bX y1, ↓bLI v0, ↓bLI v1, ↓bLS v2]
      · have h3 : pt > 1000 := by
          refine Int.lt_of_not_ge fun h => hf ⟨h1, by omega, h⟩
        simp only [h1', ↓ifNT, ↓ifDn h2, ↓ifD h3, ↓bX y1, ↓bLI v0, ↓bLI v1, ↓bLS v2]
    · have h1' : decide (Fit2 Wa Ha Wb Hb la lb) = false := decide_eq_false h1
      simp only [h1', ↓ifNF, ↓bX y1, ↓bLI v0, ↓bLI v1, ↓bLS v2]

end Go.Proofs.Ytkjgmcjdblhkeaa
