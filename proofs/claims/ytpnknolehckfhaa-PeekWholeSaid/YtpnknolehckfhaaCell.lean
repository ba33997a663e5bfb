/- What the cell functions answer. -/
import Derived.Test.YtpnknolehckfhaaEqCell
import Derived.Test.YtpnknolehckfhaaAxD
set_option linter.unusedVariables false
set_option linter.unusedSimpArgs false
namespace Go.Proofs.Ytpnknolehckfhaa
open Go Go.Ax

abbrev pt (b : Nat) : Value := .pointer (some ⟨b, 0, none⟩)

/-- A memory that was made: its block, its cells' block, the cells, its steps and wins. -/
structure IsMem (M : AMem) (b a : Nat) (L : List Int) (st wi : Nat) : Prop where
  hd : Cells M b [.bool true, .slice (some ⟨a, 0, none⟩) L.length 1, .int .i64 st, .int .i64 wi]
  cs : Cells M a (ints .u64 L)
  ne : a ≠ b

theorem IsMem.same {M M' : AMem} {S : List Nat} {b a : Nat} {L : List Int} {st wi : Nat} (h : IsMem M b a L st wi) (k : Same M M' S) (hb : b ∉ S) (ha : a ∉ S) : IsMem M' b a L st wi :=
  ⟨h.hd.same k hb, h.cs.same k ha, h.ne⟩

def inR (L : List Int) (i : Int) : Prop := 0 ≤ i ∧ i < (L.length : Int)
instance (L : List Int) (i : Int) : Decidable (inR L i) := by unfold inR; infer_instance

def getI (L : List Int) (i : Int) : Int := if inR L i then L.getD i.toNat 0 else 0

theorem at_spec {M : AMem} {b a : Nat} {L : List Int} {st wi : Nat} (h : IsMem M b a L st wi) (hst : st < 1000000000000000000) (i : Int) :
    ∃ M', LL.call 58 [pt b, .int .i64 i] M = some (.pointer (if inR L i then some ⟨a, i.toNat, none⟩ else none), M') ∧ IsMem M' b a L (st + 1) wi ∧ Same M M' [b] := by
  rw [L_call58, E58]
  obtain ⟨M', w1, w2, w3, _⟩ := h.hd.wr (o := 2) (vs := [.int .i64 ((st + 1 : Nat) : Int)]) (by simp)
  have hd' : Cells M' b [.bool true, .slice (some ⟨a, 0, none⟩) L.length 1, .int .i64 ((st + 1 : Nat) : Int), .int .i64 wi] := by simpa [wrL] using w2
  have hm : IsMem M' b a L (st + 1) wi := ⟨hd', h.cs.same w3 (by simp [h.ne]), h.ne⟩
  refine ⟨M', ?_, hm, w3⟩
  have hw : IntKind.wrap .i64 ((st : Int) + 1) = ((st + 1 : Nat) : Int) := by rw [w64 (by omega)]; rfl
  simp only [Option.isNone_some, Bool.false_eq_true, if_false, h.hd.ld, get0, get2, boolOf_bool, Option.bind_some, Bool.not_true, Nat.zero_add, intOf_int, hw, w1]
  unfold inR
  by_cases c1 : i < 0
  · simp [c1, show ¬ 0 ≤ i by omega]
  · by_cases c2 : i ≥ (L.length : Int)
    · simp [c1, hd'.ld, get1, show ¬ i < (L.length : Int) by omega, show (L.length : Int) ≤ i by omega]
    · simp [c1, hd'.ld, get1, show i < (L.length : Int) by omega, show ¬ (L.length : Int) ≤ i by omega, show 0 ≤ i by omega]

theorem ints_at {L : List Int} {i : Int} (h : inR L i) : (ints .u64 L)[i.toNat]? = some (.int .u64 (L.getD i.toNat 0)) := by
  unfold inR at h
  have : i.toNat < L.length := by omega
  rw [ints_get, List.getElem?_eq_getElem this, List.getD_eq_getElem?_getD, List.getElem?_eq_getElem this]
  rfl

theorem load_spec {M : AMem} {b a : Nat} {L : List Int} {st wi : Nat} (h : IsMem M b a L st wi) (hst : st < 1000000000000000000) (i : Int) :
    ∃ M', LL.call 43 [pt b, .int .i64 i] M = some (.tuple #[.int .u64 (getI L i), .bool (decide (inR L i))], M') ∧ IsMem M' b a L (st + 1) wi ∧ Same M M' [b] := by
  rw [L_call43, E43]
  obtain ⟨M', h1, h2, h3⟩ := at_spec h hst i
  refine ⟨M', ?_, h2, h3⟩
  simp only [h1, Option.bind_some, ptrOf_ptr]
  unfold getI
  by_cases c : inR L i
  · simp only [c, if_true, decide_true, Option.isNone_some, Bool.false_eq_true, if_false, h2.cs.ld, ints_at c, intOf_int, Option.bind_some]
  · simp [c]

/-- Is it as it was? -/
def casB (L : List Int) (i old : Int) : Bool := decide (inR L i ∧ getI L i = old)

def casL (L : List Int) (i old to : Int) : List Int := if casB L i old then L.set i.toNat to else L

theorem casL_length (L : List Int) (i old to : Int) : (casL L i old to).length = L.length := by unfold casL; split <;> simp

theorem wrL_ints (k : IntKind) (L : List Int) (i : Nat) (to : Int) : wrL (ints k L) i [.int k to] = ints k (L.set i to) := by
  simp [wrL, ints, List.map_set]

theorem cas_spec {M : AMem} {b a : Nat} {L : List Int} {st wi : Nat} (h : IsMem M b a L st wi) (hst : st < 1000000000000000000) (hwi : wi < 1000000000000000000) (i old to : Int) :
    ∃ M', LL.call 46 [pt b, .int .i64 i, .int .u64 old, .int .u64 to] M = some (.bool (casB L i old), M') ∧
      IsMem M' b a (casL L i old to) (st + 1) (if casB L i old then wi + 1 else wi) ∧ Same M M' [b, a] := by
  rw [L_call46, E46]
  obtain ⟨M1, h1, h2, h3⟩ := at_spec h hst i
  simp only [h1, Option.bind_some, ptrOf_ptr]
  unfold casL
  by_cases c : inR L i
  · by_cases e : L.getD i.toNat 0 = old
    · have hb : casB L i old = true := by unfold casB getI; rw [if_pos c, e]; simp [c]
      obtain ⟨M2, w1, w2, w3, _⟩ := h2.cs.wr (o := i.toNat) (vs := [.int .u64 to]) (by have := c.2; have := c.1; simp; omega)
      rw [wrL_ints] at w2
      have hd2 := h2.hd.same w3 (by have := h.ne; simp; omega)
      obtain ⟨M3, x1, x2, x3, _⟩ := hd2.wr (o := 3) (vs := [.int .i64 ((wi + 1 : Nat) : Int)]) (by simp)
      refine ⟨M3, ?_, ?_, ((h3.trans w3).trans x3).mono (by simp)⟩
      · have hw : IntKind.wrap .i64 ((wi : Int) + 1) = ((wi + 1 : Nat) : Int) := by rw [w64 (by omega)]; rfl
        simp only [c, if_true, Option.isNone_some, Bool.false_eq_true, if_false, h2.cs.ld, ints_at c, intOf_int, Option.bind_some, e, bne_self_eq_false, w1, Nat.zero_add, hd2.ld, get3, hw, x1, hb]
      · rw [hb, if_pos rfl, if_pos rfl]
        exact ⟨by simpa [wrL] using x2, w2.same x3 (by simp [h.ne]), h.ne⟩
    · have hb : casB L i old = false := by unfold casB getI; rw [if_pos c]; exact decide_eq_false fun h => e h.2
      refine ⟨M1, ?_, by rw [hb]; exact h2, h3.mono (by simp)⟩
      have : (L.getD i.toNat 0 != old) = true := by simpa using e
      simp only [c, if_true, Option.isNone_some, Bool.false_eq_true, if_false, h2.cs.ld, ints_at c, intOf_int, Option.bind_some, this, hb]
  · have hb : casB L i old = false := by unfold casB; simp [c]
    refine ⟨M1, ?_, by rw [hb]; exact h2, h3.mono (by simp)⟩
    simp [c, hb]

theorem len_spec {M : AMem} {b a : Nat} {L : List Int} {st wi : Nat} (h : IsMem M b a L st wi) : LL.call 41 [pt b] M = some (.int .i64 L.length, M) := by
  rw [L_call41, E41]
  simp [h.hd.ld]

theorem steps_spec {M : AMem} {b a : Nat} {L : List Int} {st wi : Nat} (h : IsMem M b a L st wi) : LL.call 31 [pt b] M = some (.int .i64 st, M) := by
  rw [L_call31, E31]
  simp [h.hd.ld]

theorem new_spec (n : Int) (M : AMem) (h : 0 ≤ n ∧ n ≤ 262144) :
    ∃ M' b a, LL.call 9 [.int .i64 n] M = some (pt b, M') ∧ IsMem M' b a (List.replicate n.toNat 0) 0 0 ∧ Same M M' [] ∧ M.length ≤ a ∧ M.length ≤ b ∧ a < M'.length ∧ b < M'.length := by
  rw [L_call9, E9]
  have g0 := cells_new M (List.replicate n.toNat (.int .u64 0)) 0
  have s0 := same_app M [AObj.cells (List.replicate n.toNat (.int .u64 0)) ⟨false, 0⟩]
  simp only [show ¬ n < 0 by omega, show ¬ n > 262144 by omega, decide_false, Bool.false_eq_true, if_false]
  rw [if_pos (by omega)]
  generalize hM0 : M ++ [AObj.cells (List.replicate n.toNat (.int .u64 0)) ⟨false, 0⟩] = M0 at g0 s0
  have l0 : M0.length = M.length + 1 := by rw [← hM0]; simp
  have g1 := cells_new M0 [.bool true, .slice (some ⟨M.length, 0, none⟩) n.toNat 1, .int .i64 0, .int .i64 0] 0
  have s1 := same_app M0 [AObj.cells [.bool true, .slice (some ⟨M.length, 0, none⟩) n.toNat 1, .int .i64 0, .int .i64 0] ⟨false, 0⟩]
  refine ⟨_, M0.length, M.length, rfl, ⟨by simpa using g1, ?_, by omega⟩, (s0.trans s1).mono (by simp), by omega, by omega, by simp; omega, by simp⟩
  have := g0.same s1 (by simp)
  simpa [ints] using this

theorem new_none (n : Int) (M : AMem) (h : ¬ (0 ≤ n ∧ n ≤ 262144)) : LL.call 9 [.int .i64 n] M = some (.pointer none, M) := by
  rw [L_call9, E9]
  by_cases c1 : n < 0
  · simp [c1]
  · simp [c1, show 262144 < n by omega]

/-- Some of the cells. -/
def sub (L : List Int) (fr n : Int) : List Int := if fr < 0 ∨ n < 0 then [] else (L.drop fr.toNat).take n.toNat

theorem take_wrL (l cs : List Value) (h : l.length = cs.length) : wrL cs 0 l = l := by
  have hl := wrL_length cs 0 l
  refine List.ext_getElem? fun i => ?_
  by_cases hi : i < l.length
  · have := wrL_get l cs 0 (by omega) i
    rw [this]
    simp [hi]
  · rw [List.getElem?_eq_none (by omega), List.getElem?_eq_none (by omega)]

theorem cells_spec {M : AMem} {b a : Nat} {L : List Int} {st wi : Nat} (h : IsMem M b a L st wi) (hL : L.length ≤ 262144) (fr n : Int) :
    ∃ M' p c, LL.call 52 [pt b, .int .i64 fr, .int .i64 n] M = some (.slice p (sub L fr n).length c, M') ∧ Slc M' 1 p (sub L fr n).length c (ints .u64 (sub L fr n)) ∧
      Same M M' [] ∧ ∀ x ∈ blk p, M.length ≤ x := by
  rw [L_call52, E52]
  simp only [len_spec h, Option.bind_some, intOf_int]
  unfold sub
  by_cases c1 : fr < 0
  · simp only [c1, decide_true, if_true, true_or]
    exact ⟨M, none, 0, rfl, .nil _ _ _, .refl _ _, by simp⟩
  · by_cases c2 : n < 0
    · simp only [c1, c2, decide_true, decide_false, Bool.false_eq_true, if_true, if_false, or_true]
      exact ⟨M, none, 0, rfl, .nil _ _ _, .refl _ _, by simp⟩
    · by_cases c3 : fr ≥ (L.length : Int)
      · simp only [c1, c2, c3, decide_true, decide_false, Bool.false_eq_true, if_true, if_false, or_self]
        rw [List.drop_eq_nil_of_le (by omega), List.take_nil]
        exact ⟨M, none, 0, rfl, .nil _ _ _, .refl _ _, by simp⟩
      · have hw : IntKind.wrap .i64 ((L.length : Int) - fr) = (L.length : Int) - fr := w64 (by omega)
        simp only [c1, c2, c3, decide_true, decide_false, Bool.false_eq_true, if_true, if_false, or_self, hw]
        let k : Nat := min n.toNat (L.length - fr.toNat)
        have hk : (if (L.length : Int) - fr < n then (L.length : Int) - fr else n) = (k : Int) := by
          show _ = ((min n.toNat (L.length - fr.toNat) : Nat) : Int)
          split <;> omega
        have hkl : ((L.drop fr.toNat).take n.toNat).length = k := by simp [k]
        have hkle : k ≤ L.length - fr.toNat := by simp only [k]; omega
        simp only [hk]
        rw [if_pos (by omega)]
        have e1 : ((k : Int)).toNat = k := Int.toNat_natCast k
        have e2 : (Int.ofNat L.length - fr).toNat = L.length - fr.toNat := by show ((L.length : Int) - fr).toNat = _; omega
        simp only [e1, e2]
        have g0 := cells_new M (List.replicate k (.int .u64 0)) 0
        have s0 := same_app M [AObj.cells (List.replicate k (.int .u64 0)) ⟨false, 0⟩]
        generalize hM0 : M ++ [AObj.cells (List.replicate k (.int .u64 0)) ⟨false, 0⟩] = M0 at g0 s0
        have h0 := h.same s0 (by simp) (by simp)
        have hr : rowOf M0 1 (.slice (some ⟨a, 0 + fr.toNat * 1, none⟩) (L.length - fr.toNat) 1) = some (ints .u64 (L.drop fr.toNat)) := by
          rw [rowOf_some h0.cs.rd (by simp; omega)]
          rw [Nat.zero_add, Nat.mul_one, Nat.mul_one, List.take_of_length_le (by simp)]
          simp [ints]
        have hc : (0 : Int) ≤ fr ∧ fr ≤ Int.ofNat L.length ∧ Int.ofNat L.length ≤ Int.ofNat L.length := ⟨by omega, by show fr ≤ (L.length : Int); omega, Int.le_refl _⟩
        simp only [h0.hd.ld, Nat.zero_add, get1, sliceOf_slice, Option.bind_some, hc, and_self, if_true, Option.map_some, e2]
        rw [Nat.zero_add] at hr
        simp only [hr, Option.bind_some]
        rw [← hkl]
        have hmin : Nat.min (L.length - fr.toNat) k = k := by show min _ _ = k; omega
        by_cases hk0 : k = 0
        · refine ⟨M0, some ⟨M.length, 0, none⟩, 1, ?_, .of ?_ (by simp), s0, by simp⟩
          · unfold copyK
            rw [hkl, hmin, if_pos hk0]
          · have : (L.drop fr.toNat).take n.toNat = [] := List.eq_nil_of_length_eq_zero (by rw [hkl, hk0])
            rw [this]
            rw [hk0] at g0
            exact g0
        · have hv : (ints .u64 (L.drop fr.toNat)).take (k * 1) = ints .u64 ((L.drop fr.toNat).take n.toNat) := by
            unfold ints
            rw [Nat.mul_one, ← List.map_take]
            congr 1
            rw [List.take_eq_take_iff]
            simp [k]
          obtain ⟨M1, w1, w2, w3, _⟩ := g0.wr (o := 0) (vs := ints .u64 ((L.drop fr.toNat).take n.toNat)) (by rw [ints_length, hkl]; simp)
          rw [take_wrL _ _ (by rw [ints_length, hkl]; simp)] at w2
          refine ⟨M1, some ⟨M.length, 0, none⟩, 1, ?_, .of w2 (by simp), (s0.trans w3).mono' (by simp), by simp⟩
          unfold copyK
          rw [hkl, hmin, if_neg hk0]
          simp only [hv, w1, Option.bind_some]

end Go.Proofs.Ytpnknolehckfhaa
