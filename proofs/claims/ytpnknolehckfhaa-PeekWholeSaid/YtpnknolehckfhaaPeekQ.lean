/- The program's looks: New, Step, Done, Tries, Film. -/
import Derived.Test.YtpnknolehckfhaaPeekP
set_option linter.unusedVariables false
set_option linter.unusedSimpArgs false
namespace Go.Proofs.Ytpnknolehckfhaa
open Go Go.Ax

theorem psteps_spec (p s : Int) : ∃ M, LL.call 30 [lay p s] [] = some (.int .i64 (if Rt p s then 2 * s + 3 * p else 0), M) := by
  rw [L_call30, E30]
  obtain ⟨_, k⟩ := right_spec p s
  rw [bX k, bB]
  by_cases h : Rt p s
  · have h' := h
    obtain ⟨h1, h2, h3, h4⟩ := h'
    rw [decide_eq_true h, ifNT, w64 (n := 2 * s) (by omega), w64 (n := 3 * p) (by omega), w64 (by omega), if_pos h]
    exact ⟨_, rfl⟩
  · rw [decide_eq_false h, ifNF, if_neg h]
    exact ⟨_, rfl⟩

theorem eql_loop {M : AMem} {p q : Option Addr} {n c d : Nat} {la lb : List Int} (hp : RdI M .u64 p n la) (hq : RdI M .u64 q n lb) (hn : n ≤ 1000000000) : ∀ (k i : Nat), i + k = n →
    P44_14 LL p n c q n d (n : Int) i M = some (.bool (decide (la.drop i = lb.drop i)), M) := by
  intro k
  induction k with
  | zero =>
    intro i hi
    obtain rfl : i = n := by omega
    have h1 : la.drop i = [] := List.drop_eq_nil_of_le (by have := hp.1; omega)
    have h2 : lb.drop i = [] := List.drop_eq_nil_of_le (by have := hq.1; omega)
    rw [P44_14_eq LL L_loop, ifDn (by omega), P44_33_eq, h1, h2, decide_eq_true rfl]
  | succ k ih =>
    intro i hi
    obtain ⟨a, rfl, ha⟩ := hp.2 (by omega)
    obtain ⟨b, rfl, hb⟩ := hq.2 (by omega)
    have ia : i < la.length := by have := hp.1; omega
    have ib : i < lb.length := by have := hq.1; omega
    have hg : (0 : Int) ≤ (i : Int) ∧ (i : Int) < Int.ofNat n := by rw [ofN]; omega
    have hw : IntKind.wrap .i64 ((i : Int) + 1) = ((i + 1 : Nat) : Int) := by rw [w64 (by omega)]; rfl
    have da : la.drop i = la.getD i 0 :: la.drop (i + 1) := by rw [List.drop_eq_getElem_cons ia, List.getD_eq_getElem?_getD, List.getElem?_eq_getElem ia]; rfl
    have db : lb.drop i = lb.getD i 0 :: lb.drop (i + 1) := by rw [List.drop_eq_getElem_cons ib, List.getD_eq_getElem?_getD, List.getElem?_eq_getElem ib]; rfl
    have la' : M.ld a i = some (.int .u64 (la.getD i 0)) := by rw [ha.ld, ints_nat ia]
    have lb' : M.ld b i = some (.int .u64 (lb.getD i 0)) := by rw [hb.ld, ints_nat ib]
    rw [P44_14_eq LL L_loop, ifD (by omega)]
    simp only [↓if_pos hg, Nat.zero_add, Nat.mul_one, Int.toNat_natCast, ↓bLI la', ↓bLI lb']
    rw [da, db]
    by_cases e : la.getD i 0 = lb.getD i 0
    · rw [show (la.getD i 0 != lb.getD i 0) = false by rw [e]; exact bne_self_eq_false _, ifF, P44_32_eq, hw, ih (i + 1) (by omega), e]
      simp
    · rw [show (la.getD i 0 != lb.getD i 0) = true by simpa using e, ifT]
      congr 3
      symm
      exact decide_eq_false fun h => e (List.cons.inj h).1

theorem eql_spec {M : AMem} {p q : Option Addr} {n c d : Nat} {la lb : List Int} (hp : RdI M .u64 p n la) (hq : RdI M .u64 q n lb) (hn : n ≤ 1000000000) :
    LL.call 44 [.slice p n c, .slice q n d] M = some (.bool (decide (la = lb)), M) := by
  rw [L_call44, E44]
  have := eql_loop (c := c) (d := d) hp hq hn n 0 (by omega)
  simp only [List.drop_zero] at this
  simp only [bne_self_eq_false, Bool.false_eq_true, if_false]
  exact this

/-! ### a step, as what stands behind it -/

def pkOver (L : List Int) (x : PK) : Bool := x.over || decide (L.length ≠ 1 + 2 * x.s + 3 * x.p)
def pkArr (L : List Int) (x : PK) : List Int := x.arr.set x.i (getI L (pkRd x.p x.s x.i : Nat))
def pkS (L : List Int) (x : PK) : PK :=
  if pkOver L x = true then x
  else if x.i + 1 < x.all then { x with arr := pkArr L x, i := x.i + 1 }
  else if (pkArr L x).take x.s = (pkArr L x).drop (x.s + 3 * x.p) then { x with arr := pkArr L x, i := x.all, tries := x.tries + 1, over := true }
  else if x.tries + 1 < x.most then { x with arr := pkArr L x, i := 0, tries := x.tries + 1 }
  else { x with arr := pkArr L x, i := x.all, tries := x.tries + 1, over := true, en := 12 }
def pkT (L : List Int) (x : PK) : Nat := if pkOver L x = true then 0 else 1

theorem pk_step {M : AMem} {b be bb bf : Nat} {x : PK} {mb ma : Nat} {L : List Int} {st wi : Nat} (h : IsPk M b be bb bf x) (hm : IsMem M mb ma L st wi) (hst : st < 1000000000000000000) (hd : ∀ z ∈ [b, be, bb, bf], z ≠ mb ∧ z ≠ ma) :
    ∃ M', LL.call 17 [pt b, pt mb] M = some (.bool (!pkOver L x), M') ∧ IsPk M' b be bb bf (pkS L x) ∧ IsMem M' mb ma L (st + pkT L x) wi ∧ Same M M' [b, be, bb, bf, mb] := by
  rw [L_call17, E17]
  obtain ⟨h0, h1, h2, h3, h4, h5, h6, h7, h8, h9⟩ := h.ld
  have hrt := h.rt
  obtain ⟨r1, r2, r3, r4⟩ := h.rt
  rw [bX (given_spec h), bB, ifNT]
  simp only [Nat.zero_add]
  rw [bLB h9]
  have over : pkOver L x = true → ∃ M', some (Value.bool false, M) = some (.bool (!pkOver L x), M') ∧ IsPk M' b be bb bf (pkS L x) ∧ IsMem M' mb ma L (st + pkT L x) wi ∧ Same M M' [b, be, bb, bf, mb] := fun ho =>
    ⟨M, by rw [ho]; rfl, by unfold pkS; rw [if_pos ho]; exact h, by unfold pkT; rw [if_pos ho]; exact hm, .refl _ _⟩
  cases hov : x.over with
  | true =>
    rw [ifT]
    exact over (by unfold pkOver; rw [hov]; rfl)
  | false =>
    obtain ⟨_, k1⟩ := size_spec x.p x.s
    rw [if_pos hrt] at k1
    rw [ifF, bX (len_spec hm), bI, bLI h0, bLI h1, bX k1, bI, if_pos (by simp [chkOk, List.lookup])]
    by_cases hsz : L.length = 1 + 2 * x.s + 3 * x.p
    rotate_left
    · rw [show ((L.length : Int) != 1 + 2 * (x.s : Int) + 3 * (x.p : Int)) = true by simp; omega, ifT]
      exact over (by unfold pkOver; rw [decide_eq_true hsz]; simp)
    have ho : pkOver L x = false := by unfold pkOver; rw [hov, decide_eq_false (by simpa using hsz)]; rfl
    have hT : pkT L x = 1 := by unfold pkT; rw [ho]; rfl
    rw [show ((L.length : Int) != 1 + 2 * (x.s : Int) + 3 * (x.p : Int)) = false by simp; omega, ifF, ho, hT]
    obtain ⟨pb, po, e1, e2, e3⟩ := place34 h hov
    obtain ⟨M1, l1, l2, l3⟩ := load_spec hm hst (pkRd x.p x.s x.i : Nat)
    have hd' : ∀ z ∈ [b, be, bb, bf], z ∉ [mb] := fun z hz => by simp; exact (hd z hz).1
    have hq1 := h.same l3 (hd' b (by simp)) (hd' be (by simp)) (hd' bb (by simp)) (hd' bf (by simp))
    obtain ⟨M2, w1, w2, w3⟩ := e3 M1 (getI L (pkRd x.p x.s x.i : Nat)) hq1
    rw [bX e1, bT2, bG0, bI, bG1, bP, bX l1, bT2, bG0, bI, bG1, bB]
    simp only
    rw [bX w1]
    have hpb : pb ≠ mb ∧ pb ≠ ma := by
      simp only [List.mem_cons, List.not_mem_nil, or_false] at e2
      rcases e2 with rfl | rfl | rfl
      · exact hd _ (by simp)
      · exact hd _ (by simp)
      · exact hd _ (by simp)
    have hm2 := l2.same w3 (by simp; exact Ne.symm hpb.1) (by simp; exact Ne.symm hpb.2)
    have t2 : Same M M2 [b, be, bb, bf, mb] := (l3.trans w3).mono (by
      intro z hz
      simp only [List.mem_append, List.mem_cons, List.not_mem_nil, or_false] at hz e2 ⊢
      rcases hz with rfl | rfl
      · simp
      · rcases e2 with rfl | rfl | rfl <;> simp)
    have hix := h.ix hov
    have htr := h.tr.2 hov
    have hmo := h.mo
    have hall : x.all = 2 * x.s + 3 * x.p := rfl
    obtain ⟨n1, n2, n3, n4, n5, n6⟩ := h.ne
    -- the count goes on
    have v4 : M2.ld b 4 = some (.int .i64 (x.i : Int)) := w2.hd.ld 4
    have wi1 : IntKind.wrap .i64 ((x.i : Int) + 1) = ((x.i + 1 : Nat) : Int) := by rw [w64 (by omega)]; rfl
    obtain ⟨M3, y1, y2, y3, y4⟩ := w2.hd.wr (o := 4) (vs := [.int .i64 ((x.i + 1 : Nat) : Int)]) (by simp)
    have y2' : Cells M3 b [.int .i64 (x.p : Int), .int .i64 (x.s : Int), .int .i64 (x.most : Int), .int .i64 (x.tries : Int), .int .i64 ((x.i + 1 : Nat) : Int), .slice (some ⟨be, 0, none⟩) x.s 1, .slice (some ⟨bb, 0, none⟩) x.s 1, .slice (some ⟨bf, 0, none⟩) x.p 3, .int .i64 x.en, .bool x.over] := by simpa [wrL] using y2
    have hm3 := hm2.same y3 (by simp; exact Ne.symm (hd b (by simp)).1) (by simp; exact Ne.symm (hd b (by simp)).2)
    have ce3 := w2.ce.same y3 (by simp; exact n1)
    have cf3 := w2.cf.same y3 (by simp; exact n3)
    have cb3 := w2.cb.same y3 (by simp; exact n2)
    have t3 : Same M M3 [b, be, bb, bf, mb] := (t2.trans y3).mono (by intro z hz; simp at hz ⊢; omega)
    have u0 : M3.ld b 0 = some (.int .i64 (x.p : Int)) := y2'.ld 0
    have u1 : M3.ld b 1 = some (.int .i64 (x.s : Int)) := y2'.ld 1
    have u4 : M3.ld b 4 = some (.int .i64 ((x.i + 1 : Nat) : Int)) := y2'.ld 4
    have u3 : M3.ld b 3 = some (.int .i64 (x.tries : Int)) := y2'.ld 3
    obtain ⟨_, k2⟩ := psteps_spec x.p x.s
    rw [if_pos hrt] at k2
    rw [bLI v4, wi1, bX y1, bLI u4, bLI u0, bLI u1, bX k2, bI]
    by_cases c1 : x.i + 1 < x.all
    · have hS : pkS L x = { x with arr := pkArr L x, i := x.i + 1 } := by unfold pkS; rw [if_neg (by simp [ho]), if_pos c1]
      rw [ifD (by omega), hS]
      exact ⟨M3, rfl, ⟨y2', ce3, cf3, cb3, h.ne, h.rt, h.mo, h.tr, by simp only [pkArr, List.length_set]; exact h.len, fun _ => c1⟩, hm3, t3⟩
    -- a look is over
    have hie : x.i + 1 = x.all := by omega
    have wi2 : IntKind.wrap .i64 ((x.tries : Int) + 1) = ((x.tries + 1 : Nat) : Int) := by rw [w64 (by omega)]; rfl
    obtain ⟨M4, z1, z2, z3, z4⟩ := y2'.wr (o := 3) (vs := [.int .i64 ((x.tries + 1 : Nat) : Int)]) (by simp)
    have z2' : Cells M4 b [.int .i64 (x.p : Int), .int .i64 (x.s : Int), .int .i64 (x.most : Int), .int .i64 ((x.tries + 1 : Nat) : Int), .int .i64 ((x.i + 1 : Nat) : Int), .slice (some ⟨be, 0, none⟩) x.s 1, .slice (some ⟨bb, 0, none⟩) x.s 1, .slice (some ⟨bf, 0, none⟩) x.p 3, .int .i64 x.en, .bool x.over] := by simpa [wrL] using z2
    have hm4 := hm3.same z3 (by simp; exact Ne.symm (hd b (by simp)).1) (by simp; exact Ne.symm (hd b (by simp)).2)
    have ce4 := ce3.same z3 (by simp; exact n1)
    have cf4 := cf3.same z3 (by simp; exact n3)
    have cb4 := cb3.same z3 (by simp; exact n2)
    have t4 : Same M M4 [b, be, bb, bf, mb] := (t3.trans z3).mono (by intro z hz; simp at hz ⊢; omega)
    have q5 : M4.ld b 5 = some (.slice (some ⟨be, 0, none⟩) x.s 1) := z2'.ld 5
    have q6 : M4.ld b 6 = some (.slice (some ⟨bb, 0, none⟩) x.s 1) := z2'.ld 6
    have q3 : M4.ld b 3 = some (.int .i64 ((x.tries + 1 : Nat) : Int)) := z2'.ld 3
    have q2 : M4.ld b 2 = some (.int .i64 (x.most : Int)) := z2'.ld 2
    have hal := h.len
    have hla : (pkArr L x).length = x.all := by unfold pkArr; rw [List.length_set]; exact hal
    have he := eql_spec (c := 1) (d := 1) (n := x.s) (la := (pkArr L x).take x.s) (lb := (pkArr L x).drop (x.s + 3 * x.p)) (p := some ⟨be, 0, none⟩) (q := some ⟨bb, 0, none⟩) (M := M4) ⟨by rw [List.length_take]; omega, fun _ => ⟨be, rfl, ce4.rd⟩⟩ ⟨by rw [List.length_drop]; omega, fun _ => ⟨bb, rfl, cb4.rd⟩⟩ (by omega)
    rw [ifDn (by omega), bLI u3, wi2, bX z1, bLS q5, bLS q6, bX he, bB]
    by_cases c2 : (pkArr L x).take x.s = (pkArr L x).drop (x.s + 3 * x.p)
    · have hS : pkS L x = { x with arr := pkArr L x, i := x.all, tries := x.tries + 1, over := true } := by unfold pkS; rw [if_neg (by simp [ho]), if_neg c1, if_pos c2]
      obtain ⟨M5, a1, a2, a3, a4⟩ := z2'.wr (o := 9) (vs := [.bool true]) (by simp)
      have a2' : Cells M5 b [.int .i64 (x.p : Int), .int .i64 (x.s : Int), .int .i64 (x.most : Int), .int .i64 ((x.tries + 1 : Nat) : Int), .int .i64 (x.all : Int), .slice (some ⟨be, 0, none⟩) x.s 1, .slice (some ⟨bb, 0, none⟩) x.s 1, .slice (some ⟨bf, 0, none⟩) x.p 3, .int .i64 x.en, .bool true] := by rw [← hie]; simpa [wrL] using a2
      refine ⟨M5, ?_, by rw [hS]; exact ⟨a2', ce4.same a3 (by simp; exact n1), cf4.same a3 (by simp; exact n3), cb4.same a3 (by simp; exact n2), h.ne, h.rt, h.mo, ⟨by simp only; omega, fun h => by cases h⟩, hla, fun h => by cases h⟩, hm4.same a3 (by simp; exact Ne.symm (hd b (by simp)).1) (by simp; exact Ne.symm (hd b (by simp)).2), (t4.trans a3).mono (by intro z hz; simp at hz ⊢; omega)⟩
      rw [decide_eq_true c2, P17_30_eq, ifT, P17_53_eq]
      simp only [Nat.zero_add]
      rw [bX a1]
      rfl
    rw [decide_eq_false c2, P17_30_eq, ifF]
    simp only [Nat.zero_add]
    rw [bLI q3, bLI q2]
    by_cases c3 : x.tries + 1 < x.most
    · have hS : pkS L x = { x with arr := pkArr L x, i := 0, tries := x.tries + 1 } := by unfold pkS; rw [if_neg (by simp [ho]), if_neg c1, if_neg c2, if_pos c3]
      obtain ⟨M5, a1, a2, a3, a4⟩ := z2'.wr (o := 4) (vs := [.int .i64 0]) (by simp)
      have a2' : Cells M5 b [.int .i64 (x.p : Int), .int .i64 (x.s : Int), .int .i64 (x.most : Int), .int .i64 ((x.tries + 1 : Nat) : Int), .int .i64 ((0 : Nat) : Int), .slice (some ⟨be, 0, none⟩) x.s 1, .slice (some ⟨bb, 0, none⟩) x.s 1, .slice (some ⟨bf, 0, none⟩) x.p 3, .int .i64 x.en, .bool x.over] := by simpa [wrL] using a2
      refine ⟨M5, ?_, by rw [hS]; exact ⟨a2', ce4.same a3 (by simp; exact n1), cf4.same a3 (by simp; exact n3), cb4.same a3 (by simp; exact n2), h.ne, h.rt, h.mo, ⟨by simp only; omega, fun _ => c3⟩, hla, fun _ => by simp only [PK.all]; omega⟩, hm4.same a3 (by simp; exact Ne.symm (hd b (by simp)).1) (by simp; exact Ne.symm (hd b (by simp)).2), (t4.trans a3).mono (by intro z hz; simp at hz ⊢; omega)⟩
      rw [ifD (by omega), bX a1]
      rfl
    · have hS : pkS L x = { x with arr := pkArr L x, i := x.all, tries := x.tries + 1, over := true, en := 12 } := by unfold pkS; rw [if_neg (by simp [ho]), if_neg c1, if_neg c2, if_neg c3]
      obtain ⟨M5, a1, a2, a3, a4⟩ := z2'.wr (o := 8) (vs := [.int .i64 12]) (by simp)
      obtain ⟨M6, d1, d2, d3, d4⟩ := a2.wr (o := 9) (vs := [.bool true]) (by simp [wrL])
      have d2' : Cells M6 b [.int .i64 (x.p : Int), .int .i64 (x.s : Int), .int .i64 (x.most : Int), .int .i64 ((x.tries + 1 : Nat) : Int), .int .i64 (x.all : Int), .slice (some ⟨be, 0, none⟩) x.s 1, .slice (some ⟨bb, 0, none⟩) x.s 1, .slice (some ⟨bf, 0, none⟩) x.p 3, .int .i64 12, .bool true] := by rw [← hie]; simpa [wrL] using d2
      have t56 : Same M4 M6 [b] := (a3.trans d3).mono (by simp)
      refine ⟨M6, ?_, by rw [hS]; exact ⟨d2', ce4.same t56 (by simp; exact n1), cf4.same t56 (by simp; exact n3), cb4.same t56 (by simp; exact n2), h.ne, h.rt, h.mo, ⟨by simp only; omega, fun h => by cases h⟩, hla, fun h => by cases h⟩, hm4.same t56 (by simp; exact Ne.symm (hd b (by simp)).1) (by simp; exact Ne.symm (hd b (by simp)).2), (t4.trans t56).mono (by intro z hz; simp at hz ⊢; omega)⟩
      rw [ifDn (by omega), bX a1, P17_48_eq]
      simp only [Nat.zero_add]
      rw [bX d1]
      rfl

end Go.Proofs.Ytpnknolehckfhaa
