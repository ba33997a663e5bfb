/- Lists held side by side; the example; cells that count their wins. -/
import Derived.Test.YtaepdefnomcllaaEqLaw30
import Derived.Test.YtaepdefnomcllaaRef30
import Derived.Test.YtaepdefnomcllaaAxMath
set_option linter.unusedVariables false
set_option linter.unusedSimpArgs false
namespace Go.Proofs.Ytaepdefnomcllaa
open Go Go.Ax

theorem same_loop {M : AMem} {p q : Option Addr} {n c d : Nat} {la lb : List Int} (hp : RdI M .u64 p n la) (hq : RdI M .u64 q n lb) (hn : n ≤ 1000000000) : ∀ (k i : Nat), i + k = n →
    P34_14 LL p n c q n d i M = some (.bool (decide (la.drop i = lb.drop i)), M) := by
  intro k
  induction k with
  | zero =>
    intro i hi
    obtain rfl : i = n := by omega
    rw [P34_14_eq LL L_loop]
    have h1 : la.drop i = [] := List.drop_eq_nil_of_le (by have := hp.1; omega)
    have h2 : lb.drop i = [] := List.drop_eq_nil_of_le (by have := hq.1; omega)
    simp [P34_31_eq, h1, h2]
  | succ k ih =>
    intro i hi
    obtain ⟨a, rfl, ha⟩ := hp.2 (by omega)
    obtain ⟨b, rfl, hb⟩ := hq.2 (by omega)
    rw [P34_14_eq LL L_loop]
    have hlt : (i : Int) < Int.ofNat n := by show (i : Int) < (n : Int); omega
    have h0 : (0 : Int) ≤ (i : Int) := by omega
    have ia : i < la.length := by have := hp.1; omega
    have ib : i < lb.length := by have := hq.1; omega
    have hw : IntKind.wrap .i64 ((i : Int) + 1) = ((i + 1 : Nat) : Int) := by rw [w64 (by omega)]; rfl
    have da : la.drop i = la.getD i 0 :: la.drop (i + 1) := by rw [List.drop_eq_getElem_cons ia, List.getD_eq_getElem?_getD, List.getElem?_eq_getElem ia]; rfl
    have db : lb.drop i = lb.getD i 0 :: lb.drop (i + 1) := by rw [List.drop_eq_getElem_cons ib, List.getD_eq_getElem?_getD, List.getElem?_eq_getElem ib]; rfl
    simp only [hlt, h0, and_self, decide_true, if_true, Nat.zero_add, Nat.mul_one, Int.toNat_natCast, ha.ld, hb.ld, ints_nat ia, ints_nat ib, intOf_int, Option.bind_some]
    rw [da, db]
    by_cases e : la.getD i 0 = lb.getD i 0
    · simp only [e, bne_self_eq_false, Bool.false_eq_true, if_false, P34_30_eq, hw]
      rw [ih (i + 1) (by omega)]
      simp
    · have : (la.getD i 0 != lb.getD i 0) = true := by simpa using e
      simp only [this, if_true]
      congr 3
      symm
      exact decide_eq_false fun h => e (List.cons.inj h).1

theorem same_spec {M : AMem} {p q : Option Addr} {n m c d : Nat} {la lb : List Int} (hp : RdI M .u64 p n la) (hq : RdI M .u64 q m lb) (hn : n ≤ 1000000000) :
    LL.call 34 [.slice p n c, .slice q m d] M = some (.bool (decide (la = lb)), M) := by
  rw [L_call34, E34]
  by_cases e : n = m
  · subst e
    have := same_loop (c := c) (d := d) hp hq hn n 0 (by omega)
    simp only [List.drop_zero] at this
    simp only [bne_self_eq_false, Bool.false_eq_true, if_false]
    exact this
  · have h1 : (Int.ofNat n != Int.ofNat m) = true := by
      simp only [bne_iff_ne, ne_eq]
      intro h
      exact e (Int.ofNat.inj h)
    simp only [h1, if_true]
    congr 3
    symm
    exact decide_eq_false fun h => e (by rw [← hp.1, ← hq.1, h])

theorem awake30 : ∃ M, LL.call 23 [] [] = some (.bool true, M) := by
  rw [L_call23, E23]
  obtain ⟨M1, b, a, h1, h2, _⟩ := new_spec 1 [] (by omega)
  obtain ⟨M2, h3, h4, _⟩ := cas_spec h2 (by omega) (by omega) 0 0 1
  obtain ⟨M3, h5, h6, _⟩ := cas_spec h4 (by omega) (by split <;> omega) 0 0 1
  have c1 : casB (List.replicate (Int.toNat 1) 0) 0 0 = true := by decide
  have c2 : casL (List.replicate (Int.toNat 1) 0) 0 0 1 = [1] := by decide
  have c3 : casB [1] 0 0 = false := by decide
  have c4 : casL [1] 0 0 1 = [1] := by decide
  simp only [c1, c2, c3, c4, if_true, Bool.false_eq_true, if_false] at h3 h4 h5 h6
  have h7 := len_spec h6
  have h8 := steps_spec h6
  have h9 := wins_spec h6
  have h10 := new_none (-1) M3 (by omega)
  simp only [h1, h3, h5, h7, h8, h9, h10, Option.bind_some, ptrOf_ptr, boolOf_bool, intOf_int, if_true, Bool.not_false]
  exact ⟨_, rfl⟩

/-! #### CellCounts -/

def bools (l : List Bool) : List Value := l.map .bool

theorem bools_nat {l : List Bool} {i : Nat} (h : i < l.length) : (bools l)[i]? = some (.bool (l.getD i false)) := by
  unfold bools
  rw [List.getElem?_map, List.getElem?_eq_getElem h, List.getD_eq_getElem?_getD, List.getElem?_eq_getElem h]
  rfl

theorem wrL_bools (l : List Bool) (i : Nat) (b : Bool) : wrL (bools l) i [.bool b] = bools (l.set i b) := by
  simp [wrL, bools, List.map_set]

structure CntInv (M : AMem) (p : Option Addr) (n b a s r : Nat) (l : List Int) (i w : Nat) (S : List Int) (R : List Bool) : Prop where
  arg : RdI M .u8 p n l
  argB : ∀ x ∈ blk p, x ∉ [b, a, s, r]
  mem : IsMem M b a [0, w, 0] i w
  seen : Cells M s (ints .u64 S)
  read : Cells M r (bools R)
  sl : S.length = 8
  rl : R.length = 8
  dist : s ∉ [b, a, r] ∧ r ∉ [b, a, s]
  le : w ≤ i

theorem counts_end {M : AMem} {p : Option Addr} {n c b a s r : Nat} {l : List Int} {w : Nat} {S : List Int} {R : List Bool} (h : CntInv M p n b a s r l n w S R) (hn : n ≤ 100) :
    ∃ M', P6_79 LL p n c (some ⟨b, 0, none⟩) w M = some (.bool true, M') := by
  rw [P6_79_eq]
  obtain ⟨M1, h1, h2, h3⟩ := load_spec h.mem (by omega) 1
  have e1 : getI [0, (w : Int), 0] 1 = w := by simp [getI, inR]
  rw [e1] at h1
  have h4 := wins_spec h2
  have h5 := steps_spec h2
  obtain ⟨M2, q, c2, h6, h7, h8, h9⟩ := cells_spec h2 (by simp) 0 3
  have e2 : sub [0, (w : Int), 0] 0 3 = [0, (w : Int), 0] := by simp [sub]
  rw [e2] at h6 h7
  obtain ⟨_, h11⟩ := awake30
  have s2 := same_app M2 [AObj.cells [.int .u64 0, .int .u64 (w : Int), .int .u64 0] ⟨false, 0⟩]
  have h10 := same_spec (c := c2) (d := 1) (la := [0, (w : Int), 0]) (lb := [0, (w : Int), 0]) (RdI.of_slc (h7.same s2 (by simp))) ⟨rfl, fun _ => ⟨M2.length, rfl, (cells_new M2 (ints .u64 [0, (w : Int), 0]) 0).rd⟩⟩ (by simp)
  have w1 : IntKind.wrap .i64 (w : Int) = w := w64 (by have := h.le; omega)
  have w2 : IntKind.wrap .i64 (Int.ofNat n + 1) = ((n + 1 : Nat) : Int) := by rw [show Int.ofNat n = (n : Int) from rfl, w64 (by omega)]; rfl
  simp only [h1, Option.bind_some, tup2, get0, get1, intOf_int, boolOf_bool, beq_self_eq_true, if_true, h4, w1, h5, w2, h6, sliceOf_slice]
  simp only [ints, List.map_cons, List.map_nil, List.length_cons, List.length_nil, Nat.zero_add, Nat.reduceAdd] at h10 ⊢
  simp only [h10, Option.bind_some, boolOf_bool, decide_true, if_true, h11]
  exact ⟨_, rfl⟩

theorem counts_loop {p : Option Addr} {n c b a s r : Nat} {l : List Int} (hn : n ≤ 100) (hl : ∀ x ∈ l, 0 ≤ x ∧ x ≤ 255) : ∀ (d i w : Nat) (M : AMem) (S : List Int) (R : List Bool), i + d = n → CntInv M p n b a s r l i w S R →
    ∃ M', P6_30 LL p n c (some ⟨b, 0, none⟩) s r w i M = some (.bool true, M') := by
  intro d
  induction d with
  | zero =>
    intro i w M S R hi h
    obtain rfl : i = n := by omega
    obtain ⟨M', h1⟩ := counts_end (c := c) h hn
    refine ⟨M', ?_⟩
    rw [P6_30_eq LL L_loop]
    simpa using h1
  | succ d ih =>
    intro i w M S R hi h
    rw [P6_30_eq LL L_loop]
    have il : i < l.length := by have := h.arg.1; omega
    obtain ⟨pa, rfl, ha⟩ := h.arg.2 (by omega)
    have hlt : (i : Int) < Int.ofNat n := by show (i : Int) < (n : Int); omega
    have h0 : (0 : Int) ≤ (i : Int) := by omega
    have hx := hl (l.getD i 0) (by rw [List.getD_eq_getElem?_getD, List.getElem?_eq_getElem il]; simp)
    generalize hxe : l.getD i 0 = x at hx
    have w1 : IntKind.wrap .i64 x = x := w64 (by omega)
    have hk : Int.tmod x 8 = x % 8 := Int.tmod_eq_emod_of_nonneg hx.1
    have hat := ints_nat (k := .u8) il
    rw [hxe] at hat
    simp only [hlt, h0, and_self, decide_true, if_true, Nat.zero_add, Nat.mul_one, Int.toNat_natCast, ha.ld, hat, intOf_int, Option.bind_some, w1, hk]
    have hk1 : 0 ≤ x % 8 ∧ x % 8 < 8 := by omega
    have hkn : (x % 8).toNat < 8 := by omega
    generalize x % 8 = k at hk1 hkn
    simp only [hk1, and_self, if_true, h.read.ld, bools_nat (show k.toNat < R.length by rw [h.rl]; exact hkn), boolOf_bool, Option.bind_some]
    have hab := h.argB pa (by simp)
    have hd1 := h.dist.1
    have hd2 := h.dist.2
    have hne := h.mem.ne
    simp only [List.mem_cons, List.mem_nil_iff, or_false, not_or, not_false_eq_true, List.not_mem_nil] at hab hd1 hd2
    have hw : IntKind.wrap .i64 ((i : Int) + 1) = ((i + 1 : Nat) : Int) := by rw [w64 (by omega)]; rfl
    cases hR : R.getD k.toNat false with
    | false =>
      obtain ⟨M1, h1, h2, h3⟩ := load_spec h.mem (by omega) 1
      have e1 : getI [0, (w : Int), 0] 1 = w := by simp [getI, inR]
      have e2 : decide (inR [0, (w : Int), 0] 1) = true := by simp [inR]
      rw [e1, e2] at h1
      obtain ⟨M2, x1, x2, x3, _⟩ := (h.seen.same h3 (by simp; omega)).wr (o := k.toNat) (vs := [.int .u64 (w : Int)]) (by simp [h.sl]; omega)
      obtain ⟨M3, y1, y2, y3, _⟩ := ((h.read.same h3 (by simp; omega)).same x3 (by simp; omega)).wr (o := k.toNat) (vs := [.bool true]) (by simp [bools, h.rl]; omega)
      rw [wrL_ints] at x2
      rw [wrL_bools] at y2
      have hs := (h3.trans x3).trans y3
      obtain ⟨M', g⟩ := ih (i + 1) w M3 (S.set k.toNat w) (R.set k.toNat true) (by omega)
        ⟨h.arg.same hs (by simp; omega), h.argB, (h2.same x3 (by simp; omega) (by simp; omega)).same y3 (by simp; omega) (by simp; omega), x2.same y3 (by simp; omega), y2, by simp [h.sl], by simp [h.rl], h.dist, by have := h.le; omega⟩
      refine ⟨M', ?_⟩
      simp only [Bool.not_false, if_true, h1, tup2, get0, get1, intOf_int, boolOf_bool, Option.bind_some, Bool.not_true, Bool.false_eq_true, if_false, bne_self_eq_false, x1, y1, P6_78_eq, hw]
      exact g
    | true =>
      obtain ⟨M1, x1, x2, x3, _⟩ := h.read.wr (o := k.toNat) (vs := [.bool false]) (by simp [bools, h.rl]; omega)
      rw [wrL_bools] at x2
      have hm1 := h.mem.same x3 (by simp; omega) (by simp; omega)
      have hs1 := h.seen.same x3 (by simp; omega)
      obtain ⟨M2, y1, y2, y3⟩ := cas_spec hm1 (by omega) (by have := h.le; omega) 1 (S.getD k.toNat 0) (IntKind.wrap .u64 (S.getD k.toNat 0 + 1))
      have hs2 := hs1.same y3 (by simp; omega)
      have hat2 := ints_nat (k := .u64) (show k.toNat < S.length by rw [h.sl]; exact hkn)
      have hs := x3.trans y3
      have e1 : casB [0, (w : Int), 0] 1 (S.getD k.toNat 0) = (S.getD k.toNat 0 == (w : Int)) := by
        have e0 : getI [0, (w : Int), 0] 1 = w := by simp [getI, inR]
        have e2 : inR [0, (w : Int), 0] 1 := by simp [inR]
        unfold casB
        rw [e0]
        by_cases e : S.getD k.toNat 0 = w
        · rw [e]; simp [e2]
        · simp only [beq_eq_false_iff_ne.2 e]; exact decide_eq_false fun h => e h.2.symm
      have hR2 : (R.set k.toNat false).length = 8 := by simp [h.rl]
      have rd2 := x2.same y3 (by simp; omega)
      have ar2 := h.arg.same hs (by simp; omega)
      simp only [Bool.not_true, Bool.false_eq_true, if_false, x1, Option.bind_some, hs1.ld, hat2, intOf_int, y1, boolOf_bool, hs2.ld, e1, beq_self_eq_true]
      cases hb : (S.getD k.toNat 0 == (w : Int)) with
      | true =>
        rw [e1, hb] at y2
        have e3 : S.getD k.toNat 0 = w := by simpa using hb
        have hw2 : IntKind.wrap .u64 ((w : Int) + 1) = ((w + 1 : Nat) : Int) := wu64 (by have := h.le; omega)
        have e4 : casL [0, (w : Int), 0] 1 (S.getD k.toNat 0) (IntKind.wrap .u64 (S.getD k.toNat 0 + 1)) = [0, ((w + 1 : Nat) : Int), 0] := by
          unfold casL; rw [e1, hb, if_pos rfl, e3, hw2]; rfl
        rw [e4] at y2
        obtain ⟨M', g⟩ := ih (i + 1) (w + 1) M2 S (R.set k.toNat false) (by omega) ⟨ar2, h.argB, y2, hs2, rd2, h.sl, hR2, h.dist, by have := h.le; omega⟩
        refine ⟨M', ?_⟩
        simp only [Bool.not_true, Bool.false_eq_true, if_false, if_true, P6_78_eq, hw, hw2]
        exact g
      | false =>
        rw [e1, hb] at y2
        have e4 : casL [0, (w : Int), 0] 1 (S.getD k.toNat 0) (IntKind.wrap .u64 (S.getD k.toNat 0 + 1)) = [0, (w : Int), 0] := by
          unfold casL; rw [e1, hb]; rfl
        rw [e4] at y2
        obtain ⟨M', g⟩ := ih (i + 1) w M2 S (R.set k.toNat false) (by omega) ⟨ar2, h.argB, y2, hs2, rd2, h.sl, hR2, h.dist, by have := h.le; omega⟩
        refine ⟨M', ?_⟩
        simp only [Bool.not_true, Bool.false_eq_true, if_false, P6_78_eq, hw]
        exact g

end Go.Proofs.Ytaepdefnomcllaa
