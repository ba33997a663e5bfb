/- The document's looks. -/
import Derived.Test.YtpnknolehckfhaaPeekN
import Derived.Test.YtpnknolehckfhaaFlushR
import Derived.Test.YtpnknolehckfhaaRef30
import Derived.Test.YtpnknolehckfhaaEqRef34
set_option linter.unusedVariables false
set_option linter.unusedSimpArgs false
namespace Go.Proofs.Ytpnknolehckfhaa
open Go Go.Ax

structure POk (x : PK) : Prop where
  rt : Rt x.p x.s
  mo : 1 ≤ x.most ∧ x.most ≤ 1000
  tr : x.tries ≤ x.most ∧ (x.over = false → x.tries < x.most)
  len : x.arr.length = x.all
  ix : x.over = false → x.i < x.all

theorem IsPk.ok {M : AMem} {b be bb bf : Nat} {x : PK} (h : IsPk M b be bb bf x) : POk x := ⟨h.rt, h.mo, h.tr, h.len, h.ix⟩

/-- What the document's look has read. -/
def pkR (x : PK) : List Int := if x.over = true then x.arr else x.arr.take x.i
def pkE (x : PK) : Int := if x.over = true then x.en else 13

/-- With what it is over. -/
def EnOk (x : PK) : Prop := if x.over = true then x.en = 0 ∨ x.en = 12 else x.en = 0

theorem EnOk.step {x : PK} (h : EnOk x) (L : List Int) : EnOk (pkS L x) := by
  unfold pkS
  split
  · exact h
  rename_i ho
  have hov : x.over = false := by
    unfold pkOver at ho
    cases hv : x.over with
    | false => rfl
    | true => rw [hv] at ho; simp at ho
  have he : x.en = 0 := by unfold EnOk at h; rw [hov] at h; exact h
  split
  · unfold EnOk; simp only [hov]; exact he
  split
  · unfold EnOk; simp only [if_true]; exact .inl he
  split
  · unfold EnOk; simp only [hov]; exact he
  · unfold EnOk; simp only [if_true]; exact .inr trivial

structure IsRp (M : AMem) (q : Nat) (rp : Option Addr) (rc : Nat) (x : PK) : Prop where
  hd : Cells M q [.int .i64 (x.p : Int), .int .i64 (x.s : Int), .int .i64 (x.most : Int), .int .i64 (x.tries : Int), .slice rp (pkR x).length rc, .int .i64 (pkE x)]
  sl : Slc M 1 rp (pkR x).length rc (ints .u64 (pkR x))
  ne : q ∉ blk rp
  eo : EnOk x

theorem IsRp.same {M M' : AMem} {S : List Nat} {q : Nat} {rp : Option Addr} {rc : Nat} {x : PK} (h : IsRp M q rp rc x) (k : Same M M' S) (hq : q ∉ S) (hr : ∀ b ∈ blk rp, b ∉ S) : IsRp M' q rp rc x :=
  ⟨h.hd.same k hq, h.sl.same k hr, h.ne, h.eo⟩

theorem rcell_spec {M : AMem} {q : Nat} {rest : List Value} {p s : Nat} (h : Rd M q (.int .i64 (p : Int) :: .int .i64 (s : Int) :: rest)) (hr : Rt p s) {k : Nat} (hk : k < 2 * s + 3 * p) :
    LL.call 51 [pt q, .int .i64 (k : Int)] M = some (.int .i64 (pkRd p s k : Nat), M) := by
  rw [L_call51, E51]
  have h0 : M.ld q 0 = some (.int .i64 (p : Int)) := h.ld 0
  have h1 : M.ld q 1 = some (.int .i64 (s : Int)) := h.ld 1
  obtain ⟨r1, r2, r3, r4⟩ := hr
  unfold pkRd
  simp only [Nat.zero_add]
  rw [bLI h1]
  by_cases c1 : k < s
  · obtain ⟨_, e⟩ := at3_spec p s k (by omega) (by omega)
    rw [ifD (by omega), bLI h0, bLI h1, bX e, bI, if_pos c1]
    congr 3
  rw [ifDn (by omega), bLI h0, w64 (n := 3 * (p : Int)) (by omega), w64 (n := (s : Int) + 3 * (p : Int)) (by omega)]
  by_cases c2 : k < s + 3 * p
  · obtain ⟨_, e⟩ := at4_spec p s 0 0 (by omega) (by omega) (by omega)
    rw [ifD (by omega), bLI h0, bLI h1, bX e, bI, if_neg c1, if_pos c2, w64 (n := 1 + 2 * (s : Int) + (3 * 0 + 0) + (k : Int)) (by omega), w64 (by omega)]
    congr 3
    omega
  · rw [ifDn (by omega), bLI h0, bLI h1, bLI h0, w64 (n := (k : Int) - (s : Int)) (by omega), w64 (n := 3 * (p : Int)) (by omega), w64 (n := (k : Int) - (s : Int) - 3 * (p : Int)) (by omega)]
    obtain ⟨_, e⟩ := at2_spec p s ((k : Int) - (s : Int) - 3 * (p : Int)) (by omega)
    rw [bX e, bI, if_neg c1, if_neg c2]
    congr 3
    omega

theorem take_set_succ (l : List Int) (i : Nat) (v : Int) (h : i < l.length) : (l.set i v).take (i + 1) = l.take i ++ [v] := by
  rw [List.take_add_one, List.take_set_of_le (Nat.le_refl i), List.getElem?_set_self h]; rfl

theorem cmp_loop {M : AMem} {q : Nat} {p s mo t : Int} {rp : Option Addr} {rc : Nat} {en : Int} {A : List Int} {ns np : Nat} (hq : Rd M q [.int .i64 p, .int .i64 s, .int .i64 mo, .int .i64 t, .slice rp A.length rc, .int .i64 en]) (hs : Slc M 1 rp A.length rc (ints .u64 A)) (hA : A.length = 2 * ns + 3 * np) (hns : ns ≤ 256) (hnp : np ≤ 65536) : ∀ (d i : Nat) (f : Bool), i + d = ns →
    P27_32 LL (some ⟨q, 0, none⟩) (ns : Int) ((2 * ns + 3 * np : Nat) : Int) f i M = P27_43 LL (some ⟨q, 0, none⟩) (f && decide ((A.take ns).drop i = (A.drop (ns + 3 * np)).drop i)) M := by
  intro d
  induction d with
  | zero =>
    intro i f hi
    obtain rfl : i = ns := by omega
    have h1 : (A.take i).drop i = [] := List.drop_eq_nil_of_le (by rw [List.length_take]; omega)
    have h2 : (A.drop (i + 3 * np)).drop i = [] := List.drop_eq_nil_of_le (by rw [List.length_drop]; omega)
    rw [P27_32_eq LL L_loop, ifDn (by omega), h1, h2, decide_eq_true rfl, Bool.and_true]
  | succ d ih =>
    intro i f hi
    have hw : IntKind.wrap .i64 ((i : Int) + 1) = ((i + 1 : Nat) : Int) := by rw [w64 (by omega)]; rfl
    have hw2 : IntKind.wrap .i64 (IntKind.wrap .i64 (((2 * ns + 3 * np : Nat) : Int) - (ns : Int)) + (i : Int)) = ((ns + 3 * np + i : Nat) : Int) := by rw [w64 (n := ((2 * ns + 3 * np : Nat) : Int) - (ns : Int)) (by omega), w64 (by omega)]; omega
    obtain ⟨a, rfl, ha⟩ := hs.pos (by omega)
    have q4 : M.ld q 4 = some (.slice (some ⟨a, 0, none⟩) A.length rc) := hq.ld 4
    have hg1 : (0 : Int) ≤ (i : Int) ∧ (i : Int) < Int.ofNat A.length := by rw [ofN]; omega
    have hg2 : (0 : Int) ≤ ((ns + 3 * np + i : Nat) : Int) ∧ ((ns + 3 * np + i : Nat) : Int) < Int.ofNat A.length := by rw [ofN]; omega
    have a1 : M.ld a i = some (.int .u64 (A.getD i 0)) := by rw [ha.ld, ints_nat (by omega)]
    have a2 : M.ld a (ns + 3 * np + i) = some (.int .u64 (A.getD (ns + 3 * np + i) 0)) := by rw [ha.ld, ints_nat (by omega)]
    have d1 : (A.take ns).drop i = A.getD i 0 :: (A.take ns).drop (i + 1) := by
      rw [List.drop_eq_getElem_cons (by rw [List.length_take]; omega), List.getElem_take, List.getD_eq_getElem?_getD, List.getElem?_eq_getElem (by omega)]; rfl
    have d2 : (A.drop (ns + 3 * np)).drop i = A.getD (ns + 3 * np + i) 0 :: (A.drop (ns + 3 * np)).drop (i + 1) := by
      rw [List.drop_eq_getElem_cons (by rw [List.length_drop]; omega), List.getElem_drop, List.getD_eq_getElem?_getD, List.getElem?_eq_getElem (by omega)]; rfl
    rw [P27_32_eq LL L_loop, ifD (by omega)]
    cases f with
    | false =>
      rw [ifF, P27_42_eq, hw, ih (i + 1) false (by omega), Bool.false_and, Bool.false_and]
    | true =>
      rw [ifT]
      simp only [Nat.zero_add, ↓bLS q4, ↓if_pos hg1, Nat.mul_one, Int.toNat_natCast, ↓bLI a1, hw2, ↓if_pos hg2, ↓bLI a2]
      rw [P27_42_eq, hw, ih (i + 1) _ (by omega), d1, d2]
      congr 1
      rw [Bool.true_and]
      by_cases e : A.getD i 0 = A.getD (ns + 3 * np + i) 0
      · rw [e, beq_self_eq_true, Bool.true_and]
        simp
      · rw [beq_eq_false_iff_ne.2 e, Bool.false_and]
        symm
        exact decide_eq_false fun h => e (List.cons.inj h).1

theorem rp_step {M : AMem} {q : Nat} {rp : Option Addr} {rc : Nat} {x : PK} {mr : Nat} {p : Option Addr} {c : Nat} {L : List Int} {st wi : Nat} (h : IsRp M q rp rc x) (hok : POk x) (hm : IsRef M mr p c L st wi) (hst : st < 1000000000000000000) (h1 : q ≠ mr ∧ q ∉ blk p) (h2 : ∀ b ∈ blk rp, b ≠ mr ∧ b ∉ blk p) :
    ∃ M' rp' rc', LL.call 27 [pt q, pt mr] M = some (.bool (!pkOver L x), M') ∧ IsRp M' q rp' rc' (pkS L x) ∧ IsRef M' mr p c L (st + pkT L x) wi ∧ Same M M' (q :: mr :: blk rp) ∧ ∀ b ∈ blk rp', b ∈ blk rp ∨ M.length ≤ b := by
  rw [L_call27, E27]
  have v0 : M.ld q 0 = some (.int .i64 (x.p : Int)) := h.hd.ld 0
  have v1 : M.ld q 1 = some (.int .i64 (x.s : Int)) := h.hd.ld 1
  have v2 : M.ld q 2 = some (.int .i64 (x.most : Int)) := h.hd.ld 2
  have v4 : M.ld q 4 = some (.slice rp (pkR x).length rc) := h.hd.ld 4
  have v5 : M.ld q 5 = some (.int .i64 (pkE x)) := h.hd.ld 5
  have m0 : M.ld mr 0 = some (.slice p L.length c) := hm.hd.ld 0
  have hmo := hok.mo
  have hrt := hok.rt
  obtain ⟨r1, r2, r3, r4⟩ := hok.rt
  have over : pkOver L x = true → ∃ M' rp' rc', some (Value.bool false, M) = some (.bool (!pkOver L x), M') ∧ IsRp M' q rp' rc' (pkS L x) ∧ IsRef M' mr p c L (st + pkT L x) wi ∧ Same M M' (q :: mr :: blk rp) ∧ ∀ b ∈ blk rp', b ∈ blk rp ∨ M.length ≤ b := fun ho =>
    ⟨M, rp, rc, by rw [ho]; rfl, by unfold pkS; rw [if_pos ho]; exact h, by unfold pkT; rw [if_pos ho]; exact hm, .refl _ _, fun b hb => .inl hb⟩
  simp only [Nat.zero_add]
  rw [bLI v2, show ((x.most : Int) == 0) = false by rw [beq_eq_false_iff_ne]; omega, ifF, bLI v5]
  cases hov : x.over with
  | true =>
    have : (pkE x != 13) = true := by
      unfold pkE
      rw [if_pos hov]
      have he := h.eo
      unfold EnOk at he
      rw [if_pos hov] at he
      rcases he with e | e <;> rw [e] <;> rfl
    rw [this, ifT]
    exact over (by unfold pkOver; rw [hov]; rfl)
  | false =>
    have hE : pkE x = 13 := by unfold pkE; rw [if_neg (by simp [hov])]
    rw [hE, show ((13 : Int) != 13) = false from rfl, ifF, bLS m0, bLI v0, bLI v1]
    obtain ⟨_, k1⟩ := rsize31_spec x.p x.s
    rw [if_pos hrt] at k1
    rw [bX k1, bI]
    simp only [ofN]
    by_cases hsz : L.length = 1 + 2 * x.s + 3 * x.p
    rotate_left
    · rw [show ((L.length : Int) != 1 + 2 * (x.s : Int) + 3 * (x.p : Int)) = true by simp; omega, ifT]
      exact over (by unfold pkOver; rw [decide_eq_true hsz]; simp)
    have ho : pkOver L x = false := by unfold pkOver; rw [hov, decide_eq_false (by simpa using hsz)]; rfl
    have hT : pkT L x = 1 := by unfold pkT; rw [ho]; rfl
    rw [show ((L.length : Int) != 1 + 2 * (x.s : Int) + 3 * (x.p : Int)) = false by simp; omega, ifF, ho, hT]
    have hix := hok.ix hov
    have hlen := hok.len
    have hall : x.all = 2 * x.s + 3 * x.p := rfl
    have hR : pkR x = x.arr.take x.i := by unfold pkR; rw [if_neg (by simp [hov])]
    have hRl : (pkR x).length = x.i := by rw [hR, List.length_take]; omega
    have htr := hok.tr.2 hov
    have kc := rcell_spec h.hd.rd hrt (k := x.i) (by omega)
    obtain ⟨M1, l1, l2, l3⟩ := rload_spec hm hst (pkRd x.p x.s x.i : Nat)
    rw [bLS v4]
    simp only [hRl]
    rw [bX kc, bI, bX l1, bT2, bG0, bI, bG1, bB]
    simp only
    have h3 := h.same l3 (by simp; exact h1.1) (fun b hb => by simp; exact (h2 b hb).1)
    have u4 : M1.ld q 4 = some (.slice rp (pkR x).length rc) := h3.hd.ld 4
    obtain ⟨M2, a1, a2, a3⟩ := grn_row (bytes := 8) (new := [.int .u64 (getI L (pkRd x.p x.s x.i : Nat))]) (m := 1) (v := 0) h3.sl rfl (by omega) (by omega)
    have hrow := rowOf_new M1 1 1 [.int .u64 (getI L (pkRd x.p x.s x.i : Nat))] 0 1 rfl
    have hnew : (pkArr L x).take (x.i + 1) = pkR x ++ [getI L (pkRd x.p x.s x.i : Nat)] := by rw [hR]; exact take_set_succ _ _ _ (by omega)
    have hints : ints .u64 (pkR x) ++ [.int .u64 (getI L (pkRd x.p x.s x.i : Nat))] = ints .u64 ((pkArr L x).take (x.i + 1)) := by rw [hnew]; simp [ints]
    have hnl : ((pkArr L x).take (x.i + 1)).length = x.i + 1 := by rw [hnew, List.length_append, hRl]; rfl
    rw [hints, hRl] at a2
    have hq2 := h3.hd.same a3.same h3.ne
    have hm2 := l2.same a3.same (fun hb => (h2 _ hb).1 rfl) (fun b hb hbs => (h2 _ hbs).2 hb)
    obtain ⟨M3, b1, b2, b3, b4⟩ := hq2.wr (o := 4) (vs := [.slice (some ⟨M1.length + 1, 0, none⟩) (x.i + 1) 1]) (by simp)
    have b2' : Cells M3 q [.int .i64 (x.p : Int), .int .i64 (x.s : Int), .int .i64 (x.most : Int), .int .i64 (x.tries : Int), .slice (some ⟨M1.length + 1, 0, none⟩) (x.i + 1) 1, .int .i64 (pkE x)] := by simpa [wrL] using b2
    have hql := h.hd.lt
    have hle1 := l3.le
    have hne : q ≠ M1.length + 1 := by omega
    have sl3 := a2.same b3 (by simp; omega)
    have hm3 := hm2.same b3 (by simp; exact Ne.symm h1.1) (fun b hb => by simp; exact fun e => h1.2 (e ▸ hb))
    have t3 : Same M M3 (q :: mr :: blk rp) := ((l3.trans a3.same).trans b3).mono (by
      intro b hb; simp only [List.mem_append, List.mem_cons, List.not_mem_nil, or_false] at hb ⊢
      rcases hb with (hb | hb) | hb <;> simp [hb])
    have w0 : M3.ld q 0 = some (.int .i64 (x.p : Int)) := b2'.ld 0
    have w1 : M3.ld q 1 = some (.int .i64 (x.s : Int)) := b2'.ld 1
    have w2 : M3.ld q 2 = some (.int .i64 (x.most : Int)) := b2'.ld 2
    have w3 : M3.ld q 3 = some (.int .i64 (x.tries : Int)) := b2'.ld 3
    have w4 : M3.ld q 4 = some (.slice (some ⟨M1.length + 1, 0, none⟩) (x.i + 1) 1) := b2'.ld 4
    have e2s : IntKind.wrap .i64 (IntKind.wrap .i64 (2 * (x.s : Int)) + IntKind.wrap .i64 (3 * (x.p : Int))) = ((2 * x.s + 3 * x.p : Nat) : Int) := by
      rw [w64 (n := 2 * (x.s : Int)) (by omega), w64 (n := 3 * (x.p : Int)) (by omega), w64 (by omega)]; omega
    have hnewb : ∀ b ∈ blk (some (⟨M1.length + 1, 0, none⟩ : Addr)), b ∈ blk rp ∨ M.length ≤ b := fun b hb => .inr (by simp at hb; omega)
    have head : ∀ F : AMem → Res, (Option.bind (sliceOf? (AMem.ld M1 q 4)) fun s_23 =>
        (Option.bind (rowOf (M1 ++ [AObj.cells [.int .u64 (getI L (pkRd x.p x.s x.i : Nat))] ⟨false, 0⟩]) 1 (.slice (some ⟨(List.length M1), 0, none⟩) 1 1)) fun row_24 =>
        (appendK 1 8 s_23.1 s_23.2.1 s_23.2.2 1 row_24 (M1 ++ [AObj.cells [.int .u64 (getI L (pkRd x.p x.s x.i : Nat))] ⟨false, 0⟩]) fun p_25 n_26 c_27 M_28 =>
        (Option.bind (AMem.wr M_28 q 4 [.slice p_25 n_26 c_27]) fun M_30 => F M_30)))) = F M3 := fun F => by
      rw [bLS u4]
      simp only
      rw [bX hrow, a1, hRl, bX b1]
    rw [head, P27_14_eq]
    simp only [Nat.zero_add]
    rw [bLI w1, bLI w1, bLI w0, bLS w4, e2s]
    simp only [ofN]
    by_cases c1 : x.i + 1 < x.all
    · have hS : pkS L x = { x with arr := pkArr L x, i := x.i + 1 } := by unfold pkS; rw [if_neg (by simp [ho]), if_pos c1]
      have hR' : pkR (pkS L x) = (pkArr L x).take (x.i + 1) := by rw [hS]; unfold pkR; simp only [hov]; rw [if_neg (by simp)]
      rw [ifD (by omega)]
      refine ⟨M3, _, 1, rfl, ⟨?_, ?_, by simpa using hne, h.eo.step L⟩, hm3, t3, hnewb⟩
      · rw [hR', hnl, hS]
        have : pkE { x with arr := pkArr L x, i := x.i + 1 } = pkE x := rfl
        rw [this]; exact b2'
      · rw [hR', hnl]; exact sl3
    have hie : x.i + 1 = x.all := by omega
    have htk : (pkArr L x).take (x.i + 1) = pkArr L x := List.take_of_length_le (by unfold pkArr; rw [List.length_set]; omega)
    have hla : (pkArr L x).length = x.i + 1 := by unfold pkArr; rw [List.length_set]; omega
    rw [htk] at sl3
    have wi2 : IntKind.wrap .i64 ((x.tries : Int) + 1) = ((x.tries + 1 : Nat) : Int) := by rw [w64 (by omega)]; rfl
    obtain ⟨M4, z1, z2, z3, z4⟩ := b2'.wr (o := 3) (vs := [.int .i64 ((x.tries + 1 : Nat) : Int)]) (by simp)
    have z2' : Cells M4 q [.int .i64 (x.p : Int), .int .i64 (x.s : Int), .int .i64 (x.most : Int), .int .i64 ((x.tries + 1 : Nat) : Int), .slice (some ⟨M1.length + 1, 0, none⟩) (x.i + 1) 1, .int .i64 (pkE x)] := by simpa [wrL] using z2
    have sl4 := sl3.same z3 (by simp; omega)
    have hm4 := hm3.same z3 (by simp; exact Ne.symm h1.1) (fun b hb => by simp; exact fun e => h1.2 (e ▸ hb))
    have t4 : Same M M4 (q :: mr :: blk rp) := (t3.trans z3).mono (by intro b hb; simp only [List.mem_append, List.mem_cons, List.not_mem_nil, or_false] at hb ⊢; rcases hb with hb | hb <;> simp [hb])
    have hl := cmp_loop (M := M4) (q := q) (A := pkArr L x) (ns := x.s) (np := x.p) (rp := some ⟨M1.length + 1, 0, none⟩) (rc := 1) (by rw [hla]; exact z2'.rd) (by rw [hla]; exact sl4) (by omega) (by omega) (by omega) x.s 0 true (by omega)
    rw [ifDn (by omega), bLI w3, wi2, bX z1, show P27_32 LL (some ⟨q, 0, none⟩) (x.s : Int) ((2 * x.s + 3 * x.p : Nat) : Int) true 0 M4 = _ from hl, Bool.true_and, List.drop_zero, List.drop_zero, P27_43_eq]
    have y3 : M4.ld q 3 = some (.int .i64 ((x.tries + 1 : Nat) : Int)) := z2'.ld 3
    have y2 : M4.ld q 2 = some (.int .i64 (x.most : Int)) := z2'.ld 2
    by_cases c2 : (pkArr L x).take x.s = (pkArr L x).drop (x.s + 3 * x.p)
    · have hS : pkS L x = { x with arr := pkArr L x, i := x.all, tries := x.tries + 1, over := true } := by unfold pkS; rw [if_neg (by simp [ho]), if_neg c1, if_pos c2]
      have hR' : pkR (pkS L x) = pkArr L x := by rw [hS]; rfl
      have hE' : pkE (pkS L x) = 0 := by
        rw [hS]
        have he := h.eo
        unfold EnOk at he
        rw [hov] at he
        exact he
      obtain ⟨M5, a1', a2', a3', a4'⟩ := z2'.wr (o := 5) (vs := [.int .i64 0]) (by simp)
      have a2'' : Cells M5 q [.int .i64 (x.p : Int), .int .i64 (x.s : Int), .int .i64 (x.most : Int), .int .i64 ((x.tries + 1 : Nat) : Int), .slice (some ⟨M1.length + 1, 0, none⟩) (x.i + 1) 1, .int .i64 0] := by simpa [wrL] using a2'
      refine ⟨M5, _, 1, ?_, ⟨?_, ?_, by simpa using hne, h.eo.step L⟩, hm4.same a3' (by simp; exact Ne.symm h1.1) (fun b hb => by simp; exact fun e => h1.2 (e ▸ hb)), (t4.trans a3').mono (by intro b hb; simp only [List.mem_append, List.mem_cons, List.not_mem_nil, or_false] at hb ⊢; rcases hb with hb | hb <;> simp [hb]), hnewb⟩
      · rw [decide_eq_true c2, ifT]
        simp only [Nat.zero_add]
        rw [bX a1', P27_53_eq]
        rfl
      · rw [hR', hla, hE', hS]; exact a2''
      · rw [hR', hla]; exact sl4.same a3' (by simp; omega)
    rw [decide_eq_false c2, ifF]
    simp only [Nat.zero_add]
    rw [bLI y3, bLI y2]
    by_cases c3 : x.tries + 1 < x.most
    · have hS : pkS L x = { x with arr := pkArr L x, i := 0, tries := x.tries + 1 } := by unfold pkS; rw [if_neg (by simp [ho]), if_neg c1, if_neg c2, if_pos c3]
      have hR' : pkR (pkS L x) = [] := by rw [hS]; unfold pkR; simp [hov]
      obtain ⟨M5, a1', a2', a3', a4'⟩ := z2'.wr (o := 4) (vs := [.slice none 0 0]) (by simp)
      have a2'' : Cells M5 q [.int .i64 (x.p : Int), .int .i64 (x.s : Int), .int .i64 (x.most : Int), .int .i64 ((x.tries + 1 : Nat) : Int), .slice none 0 0, .int .i64 (pkE x)] := by simpa [wrL] using a2'
      refine ⟨M5, none, 0, ?_, ⟨?_, ?_, by simp, h.eo.step L⟩, hm4.same a3' (by simp; exact Ne.symm h1.1) (fun b hb => by simp; exact fun e => h1.2 (e ▸ hb)), (t4.trans a3').mono (by intro b hb; simp only [List.mem_append, List.mem_cons, List.not_mem_nil, or_false] at hb ⊢; rcases hb with hb | hb <;> simp [hb]), by simp⟩
      · rw [show (((x.tries + 1 : Nat) : Int) == (x.most : Int)) = false by rw [beq_eq_false_iff_ne]; omega, ifF, bX a1', P27_53_eq]
        rfl
      · have : pkE (pkS L x) = pkE x := by rw [hS]; rfl
        rw [hR', this, hS]; exact a2''
      · rw [hR']; exact Slc.nil _ _ _
    · have hS : pkS L x = { x with arr := pkArr L x, i := x.all, tries := x.tries + 1, over := true, en := 12 } := by unfold pkS; rw [if_neg (by simp [ho]), if_neg c1, if_neg c2, if_neg c3]
      have hR' : pkR (pkS L x) = pkArr L x := by rw [hS]; rfl
      have hE' : pkE (pkS L x) = 12 := by rw [hS]; rfl
      obtain ⟨M5, a1', a2', a3', a4'⟩ := z2'.wr (o := 5) (vs := [.int .i64 12]) (by simp)
      have a2'' : Cells M5 q [.int .i64 (x.p : Int), .int .i64 (x.s : Int), .int .i64 (x.most : Int), .int .i64 ((x.tries + 1 : Nat) : Int), .slice (some ⟨M1.length + 1, 0, none⟩) (x.i + 1) 1, .int .i64 12] := by simpa [wrL] using a2'
      refine ⟨M5, _, 1, ?_, ⟨?_, ?_, by simpa using hne, h.eo.step L⟩, hm4.same a3' (by simp; exact Ne.symm h1.1) (fun b hb => by simp; exact fun e => h1.2 (e ▸ hb)), (t4.trans a3').mono (by intro b hb; simp only [List.mem_append, List.mem_cons, List.not_mem_nil, or_false] at hb ⊢; rcases hb with hb | hb <;> simp [hb]), hnewb⟩
      · rw [show (((x.tries + 1 : Nat) : Int) == (x.most : Int)) = true by rw [beq_iff_eq]; omega, ifT, bX a1', P27_53_eq]
        rfl
      · rw [hR', hla, hE', hS]; exact a2''
      · rw [hR', hla]; exact sl4.same a3' (by simp; omega)

/-! ### its picture -/

theorem rfilm_loop {q : Nat} {rp : Option Addr} {rc : Nat} {x : PK} (hok : POk x) (hov : x.over = true) (he : x.en = 0) : ∀ (d i : Nat) (M : AMem) (o : Option Addr) (oc : Nat), i + d = x.p → IsRp M q rp rc x → (∀ b ∈ blk o, b ≠ q ∧ b ∉ blk rp) → Slc M 3 o i oc (ints .u64 ((pkFilm x).take (3 * i))) →
    ∃ M' o' oc', P28_8 LL (some ⟨q, 0, none⟩) o i oc (i : Int) M = some (.tuple #[.slice o' x.p oc', .int .i64 0], M') ∧ Slc M' 3 o' x.p oc' (ints .u64 (pkFilm x)) ∧ Grn M o M' o' := by
  have hlen := hok.len
  have hall : x.all = 2 * x.s + 3 * x.p := rfl
  have hR : pkR x = x.arr := by unfold pkR; rw [if_pos hov]
  have hE : pkE x = 0 := by unfold pkE; rw [if_pos hov]; exact he
  obtain ⟨r1, r2, r3, r4⟩ := hok.rt
  intro d
  induction d with
  | zero =>
    intro i M o oc hi h hb ho
    obtain rfl : i = x.p := by omega
    have v0 : M.ld q 0 = some (.int .i64 (x.p : Int)) := h.hd.ld 0
    have v5 : M.ld q 5 = some (.int .i64 (pkE x)) := h.hd.ld 5
    rw [List.take_of_length_le (by simp only [pkFilm, List.length_take, List.length_drop]; omega)] at ho
    rw [P28_8_eq LL L_loop]
    simp only [Nat.zero_add]
    rw [bLI v0, ifDn (by omega), P28_21_eq]
    simp only [Nat.zero_add]
    rw [bLI v5, hE]
    exact ⟨M, o, oc, rfl, ho, .refl _ _⟩
  | succ d ih =>
    intro i M o oc hi h hb ho
    have v0 : M.ld q 0 = some (.int .i64 (x.p : Int)) := h.hd.ld 0
    have v1 : M.ld q 1 = some (.int .i64 (x.s : Int)) := h.hd.ld 1
    have v4 : M.ld q 4 = some (.slice rp (pkR x).length rc) := h.hd.ld 4
    have v5 : M.ld q 5 = some (.int .i64 (pkE x)) := h.hd.ld 5
    rw [hE] at v5
    rw [hR] at v4
    have hsl := h.sl
    rw [hR] at hsl
    obtain ⟨a, rfl, ha⟩ := hsl.pos (by omega)
    have w1 : IntKind.wrap .i64 ((x.s : Int) + IntKind.wrap .i64 (3 * (i : Int))) = ((x.s + 3 * i : Nat) : Int) := by rw [w64 (n := 3 * (i : Int)) (by omega), w64 (by omega)]; omega
    have w2 : IntKind.wrap .i64 (((x.s + 3 * i : Nat) : Int) + 1) = ((x.s + 3 * i + 1 : Nat) : Int) := by rw [w64 (by omega)]; rfl
    have w3 : IntKind.wrap .i64 (((x.s + 3 * i : Nat) : Int) + 2) = ((x.s + 3 * i + 2 : Nat) : Int) := by rw [w64 (by omega)]; rfl
    have hw : IntKind.wrap .i64 ((i : Int) + 1) = ((i + 1 : Nat) : Int) := by rw [w64 (by omega)]; rfl
    have hg : ∀ j : Nat, j < 3 → (0 : Int) ≤ ((x.s + 3 * i + j : Nat) : Int) ∧ ((x.s + 3 * i + j : Nat) : Int) < Int.ofNat x.arr.length := fun j hj => by rw [ofN]; omega
    have hg0 := hg 0 (by omega)
    rw [Nat.add_zero] at hg0
    have hl : ∀ j : Nat, j < 3 → M.ld a (x.s + 3 * i + j) = some (.int .u64 (x.arr.getD (x.s + 3 * i + j) 0)) := fun j hj => by rw [ha.ld, ints_nat (by omega)]
    have hl0 := hl 0 (by omega)
    rw [Nat.add_zero] at hl0
    have hF : ∀ j : Nat, j < 3 → (pkFilm x)[3 * i + j]? = some (x.arr.getD (x.s + 3 * i + j) 0) := fun j hj => by
      unfold pkFilm
      rw [List.getElem?_take_of_lt (by omega), List.getElem?_drop, List.getD_eq_getElem?_getD, List.getElem?_eq_getElem (by omega), List.getElem?_eq_getElem (by omega)]
      simp only [Option.getD_some, Option.some.injEq]
      congr 1
      omega
    have ht : (pkFilm x).take (3 * (i + 1)) = (pkFilm x).take (3 * i) ++ [x.arr.getD (x.s + 3 * i) 0, x.arr.getD (x.s + 3 * i + 1) 0, x.arr.getD (x.s + 3 * i + 2) 0] := by
      rw [show 3 * (i + 1) = 3 * i + 1 + 1 + 1 by omega, List.take_add_one, List.take_add_one, List.take_add_one]
      have f0 := hF 0 (by omega)
      have f1 := hF 1 (by omega)
      have f2 := hF 2 (by omega)
      rw [Nat.add_zero, Nat.add_zero] at f0
      rw [f0, f1, show 3 * i + 1 + 1 = 3 * i + 2 by omega, f2]
      simp
    obtain ⟨M1, a1, a2, a3⟩ := grn_row (bytes := 24) (new := [.int .u64 (x.arr.getD (x.s + 3 * i) 0), .int .u64 (x.arr.getD (x.s + 3 * i + 1) 0), .int .u64 (x.arr.getD (x.s + 3 * i + 2) 0)]) (m := 1) (v := 0) ho rfl (by omega) (by omega)
    have hrow := rowOf_new M 3 1 [.int .u64 (x.arr.getD (x.s + 3 * i) 0), .int .u64 (x.arr.getD (x.s + 3 * i + 1) 0), .int .u64 (x.arr.getD (x.s + 3 * i + 2) 0)] 0 3 rfl
    have hql := h.hd.lt
    have hal := ha.lt
    obtain ⟨M', o', oc', k1, k2, k3⟩ := ih (i + 1) M1 (some ⟨M.length + 1, 0, none⟩) 3 (by omega) (h.same a3.same (fun hq => (hb _ hq).1 rfl) (fun b hbr hbo => (hb b hbo).2 hbr)) (fun b hb' => by
        have e : b = M.length + 1 := by simpa using hb'
        subst e
        exact ⟨by omega, by simp; omega⟩) (by
      rw [ht]
      have : ints .u64 ((pkFilm x).take (3 * i) ++ [x.arr.getD (x.s + 3 * i) 0, x.arr.getD (x.s + 3 * i + 1) 0, x.arr.getD (x.s + 3 * i + 2) 0]) = ints .u64 ((pkFilm x).take (3 * i)) ++ [.int .u64 (x.arr.getD (x.s + 3 * i) 0), .int .u64 (x.arr.getD (x.s + 3 * i + 1) 0), .int .u64 (x.arr.getD (x.s + 3 * i + 2) 0)] := by simp [ints]
      rw [this]
      exact a2)
    refine ⟨M', o', oc', ?_, k2, a3.trans k3⟩
    rw [P28_8_eq LL L_loop]
    simp only [Nat.zero_add]
    rw [bLI v0, ifD (by omega), bLI v5, show ((0 : Int) == 0) = true from rfl, ifT, bLI v1]
    simp only [w1, w2, w3, ↓bLS v4, ↓if_pos hg0, ↓if_pos (hg 1 (by omega)), ↓if_pos (hg 2 (by omega)), Nat.mul_one, Int.toNat_natCast, Nat.zero_add, ↓bLI hl0, ↓bLI (hl 1 (by omega)), ↓bLI (hl 2 (by omega)), ↓bX hrow, a1]
    rw [P28_20_eq, hw]
    exact k1

theorem rfilm_spec {M : AMem} {q : Nat} {rp : Option Addr} {rc : Nat} {x : PK} (h : IsRp M q rp rc x) (hok : POk x) :
    ∃ M' o oc, LL.call 28 [pt q] M = some (.tuple #[.slice o (if x.over = true ∧ x.en = 0 then x.p else 0) oc, .int .i64 (if x.over = true then x.en else 13)], M') ∧
      RdF M' o (if x.over = true ∧ x.en = 0 then x.p else 0) (if x.over = true ∧ x.en = 0 then pkFilm x else []) ∧ Same M M' [] := by
  rw [L_call28, E28]
  by_cases hh : x.over = true ∧ x.en = 0
  · obtain ⟨M', o, oc, k1, k2, k3⟩ := rfilm_loop hok hh.1 hh.2 x.p 0 M none 0 (by omega) h (by simp) (by simpa [ints] using Slc.nil M 3 0)
    refine ⟨M', o, oc, ?_, ?_, k3.same⟩
    · rw [if_pos hh, if_pos hh.1, hh.2]; exact k1
    · rw [if_pos hh, if_pos hh]
      refine ⟨?_, fun h0 => ?_⟩
      · have := k2.len; simp at this; omega
      · obtain ⟨a, e1, e2⟩ := k2.pos h0
        exact ⟨a, e1, e2.rd⟩
  · have v0 : M.ld q 0 = some (.int .i64 (x.p : Int)) := h.hd.ld 0
    have v5 : M.ld q 5 = some (.int .i64 (pkE x)) := h.hd.ld 5
    obtain ⟨r1, r2, r3, r4⟩ := hok.rt
    have hne : (pkE x == 0) = false := by
      rw [beq_eq_false_iff_ne]
      unfold pkE
      split
      · exact fun e => hh ⟨by assumption, e⟩
      · decide
    refine ⟨M, none, 0, ?_, ?_, .refl _ _⟩
    · rw [if_neg hh, P28_8_eq LL L_loop]
      simp only [Nat.zero_add]
      rw [bLI v0, ifD (by omega), bLI v5, hne, ifF, P28_21_eq]
      simp only [Nat.zero_add]
      rw [bLI v5]
      rfl
    · rw [if_neg hh, if_neg hh]
      exact ⟨rfl, fun h => by omega⟩

end Go.Proofs.Ytpnknolehckfhaa
