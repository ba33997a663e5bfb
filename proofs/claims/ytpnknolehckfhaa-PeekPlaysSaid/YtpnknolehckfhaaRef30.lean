/- What the document's memory answers. -/
import Derived.Test.YtpnknolehckfhaaEqRef30
import Derived.Test.YtpnknolehckfhaaCell
set_option linter.unusedVariables false
set_option linter.unusedSimpArgs false
namespace Go.Proofs.Ytpnknolehckfhaa
open Go Go.Ax

/-- The document's memory: its block, its cells' slice, the cells, its steps and wins. -/
structure IsRef (M : AMem) (b : Nat) (p : Option Addr) (c : Nat) (L : List Int) (st wi : Nat) : Prop where
  hd : Cells M b [.slice p L.length c, .int .i64 st, .int .i64 wi]
  cs : Slc M 1 p L.length c (ints .u64 L)
  ne : b ∉ blk p

theorem IsRef.same {M M' : AMem} {S : List Nat} {b : Nat} {p : Option Addr} {c : Nat} {L : List Int} {st wi : Nat} (h : IsRef M b p c L st wi) (k : Same M M' S) (hb : b ∉ S) (ha : ∀ x ∈ blk p, x ∉ S) : IsRef M' b p c L st wi :=
  ⟨h.hd.same k hb, h.cs.same k ha, h.ne⟩

theorem rnew_spec (n : Int) (M : AMem) (h : 0 ≤ n ∧ n ≤ 262144) :
    ∃ M' p, LL.call 23 [.int .i64 n] M = some (.tuple #[.agg #[.slice p n.toNat 1, .int .i64 0, .int .i64 0], .bool true], M') ∧ Slc M' 1 p n.toNat 1 (ints .u64 (List.replicate n.toNat 0)) ∧ Same M M' [] ∧ ∀ x ∈ blk p, M.length ≤ x := by
  rw [L_call23, E23]
  simp only [show ¬ n < 0 by omega, show ¬ n > 262144 by omega, decide_false, Bool.false_eq_true, if_false]
  rw [if_pos (by omega)]
  have g0 := cells_new M [.slice none 0 0, .int .i64 0, .int .i64 0] 0
  have s0 := same_app M [AObj.cells [.slice none 0 0, .int .i64 0, .int .i64 0] ⟨false, 0⟩]
  generalize hM0 : M ++ [AObj.cells [.slice none 0 0, .int .i64 0, .int .i64 0] ⟨false, 0⟩] = M0 at g0 s0
  have l0 : M0.length = M.length + 1 := by rw [← hM0]; simp
  have g1 := cells_new M0 (List.replicate n.toNat (.int .u64 0)) 0
  have s1 := same_app M0 [AObj.cells (List.replicate n.toNat (.int .u64 0)) ⟨false, 0⟩]
  have g0' := g0.same s1 (by simp)
  generalize hM1 : M0 ++ [AObj.cells (List.replicate n.toNat (.int .u64 0)) ⟨false, 0⟩] = M1 at g1 s1 g0'
  obtain ⟨M2, w1, w2, w3, _⟩ := g0'.wr (o := 0) (vs := [.slice (some ⟨M0.length, 0, none⟩) n.toNat 1, .int .i64 0, .int .i64 0]) (by simp)
  simp only [wrL, List.set_cons_zero, List.set_cons_succ] at w2
  simp only [w1, Option.bind_some, w2.ld, get0, get1, get2, sliceOf_slice, intOf_int]
  refine ⟨M2, some ⟨M0.length, 0, none⟩, rfl, .of ?_ (by simp), ((s0.trans s1).trans w3).mono' (by simp), by simp; omega⟩
  have := g1.same w3 (by simp; omega)
  simpa [ints] using this

theorem rnew_none (n : Int) (M : AMem) (h : ¬ (0 ≤ n ∧ n ≤ 262144)) :
    ∃ M', LL.call 23 [.int .i64 n] M = some (.tuple #[.agg #[.slice none 0 0, .int .i64 0, .int .i64 0], .bool false], M') ∧ Same M M' [] := by
  rw [L_call23, E23]
  have g0 := cells_new M [.slice none 0 0, .int .i64 0, .int .i64 0] 0
  have s0 := same_app M [AObj.cells [.slice none 0 0, .int .i64 0, .int .i64 0] ⟨false, 0⟩]
  obtain ⟨M2, w1, w2, w3, _⟩ := g0.wr (o := 0) (vs := [.slice none 0 0, .int .i64 0, .int .i64 0]) (by simp)
  simp only [wrL, List.set_cons_zero, List.set_cons_succ] at w2
  have hs : Same M M2 [] := (s0.trans w3).mono' (by simp)
  by_cases c1 : n < 0
  · simp only [c1, decide_true, if_true, w1, Option.bind_some, w2.ld, get0, get1, get2, sliceOf_slice, intOf_int]
    exact ⟨M2, rfl, hs⟩
  · simp only [c1, show n > 262144 by omega, decide_true, decide_false, Bool.false_eq_true, if_false, if_true, w1, Option.bind_some, w2.ld, get0, get1, get2, sliceOf_slice, intOf_int]
    exact ⟨M2, rfl, hs⟩

theorem rload_spec {M : AMem} {b : Nat} {p : Option Addr} {c : Nat} {L : List Int} {st wi : Nat} (h : IsRef M b p c L st wi) (hst : st < 1000000000000000000) (i : Int) :
    ∃ M', LL.call 49 [pt b, .int .i64 i] M = some (.tuple #[.int .u64 (getI L i), .bool (decide (inR L i))], M') ∧ IsRef M' b p c L (st + 1) wi ∧ Same M M' [b] := by
  rw [L_call49, E49]
  obtain ⟨M', w1, w2, w3, _⟩ := h.hd.wr (o := 1) (vs := [.int .i64 ((st + 1 : Nat) : Int)]) (by simp)
  simp only [wrL, List.set_cons_zero, List.set_cons_succ] at w2
  have hw : IntKind.wrap .i64 ((st : Int) + 1) = ((st + 1 : Nat) : Int) := by rw [w64 (by omega)]; rfl
  have hne : ∀ x ∈ blk p, x ∉ [b] := fun x hx hb => by simp at hb; subst hb; exact h.ne hx
  have hm : IsRef M' b p c L (st + 1) wi := ⟨w2, h.cs.same w3 hne, h.ne⟩
  refine ⟨M', ?_, hm, w3⟩
  simp only [h.hd.ld, get0, get1, Nat.zero_add, intOf_int, Option.bind_some, hw, w1, w2.ld, sliceOf_slice]
  unfold getI inR
  by_cases c1 : i < 0
  · simp [c1, show ¬ 0 ≤ i by omega]
  · by_cases c2 : i ≥ (L.length : Int)
    · simp [c1, show ¬ i < (L.length : Int) by omega, show (L.length : Int) ≤ i by omega]
    · have hin : inR L i := ⟨by omega, by omega⟩
      obtain ⟨a, rfl, hc⟩ := hm.cs.pos (by omega)
      have hi : 0 ≤ i ∧ i < Int.ofNat L.length := ⟨by omega, by show i < (L.length : Int); omega⟩
      have c2' : ¬ i ≥ Int.ofNat L.length := c2
      simp only [c1, c2', decide_false, Bool.false_eq_true, if_false, hi, and_self, if_true, Nat.zero_add, Nat.mul_one, hc.ld, ints_at hin, intOf_int, Option.bind_some, decide_true]
      have : (0 ≤ i ∧ i < (L.length : Int)) := hin
      simp only [this, and_self, if_true, decide_true]

theorem rcas_spec {M : AMem} {b : Nat} {p : Option Addr} {c : Nat} {L : List Int} {st wi : Nat} (h : IsRef M b p c L st wi) (hst : st < 1000000000000000000) (hwi : wi < 1000000000000000000) (i old to : Int) :
    ∃ M', LL.call 50 [pt b, .int .i64 i, .int .u64 old, .int .u64 to] M = some (.bool (casB L i old), M') ∧
      IsRef M' b p c (casL L i old to) (st + 1) (if casB L i old then wi + 1 else wi) ∧ Same M M' (b :: blk p) := by
  rw [L_call50, E50]
  obtain ⟨M', w1, w2, w3, _⟩ := h.hd.wr (o := 1) (vs := [.int .i64 ((st + 1 : Nat) : Int)]) (by simp)
  simp only [wrL, List.set_cons_zero, List.set_cons_succ] at w2
  have hw : IntKind.wrap .i64 ((st : Int) + 1) = ((st + 1 : Nat) : Int) := by rw [w64 (by omega)]; rfl
  have hne : ∀ x ∈ blk p, x ∉ [b] := fun x hx hb => by simp at hb; subst hb; exact h.ne hx
  have hm : IsRef M' b p c L (st + 1) wi := ⟨w2, h.cs.same w3 hne, h.ne⟩
  have hs1 : Same M M' (b :: blk p) := w3.mono (by simp)
  simp only [h.hd.ld, get0, get1, Nat.zero_add, intOf_int, Option.bind_some, hw, w1, w2.ld, sliceOf_slice]
  unfold casL
  by_cases c1 : i < 0
  · have hb : casB L i old = false := by unfold casB inR; exact decide_eq_false fun h => by omega
    rw [hb]
    simp only [c1, decide_true, if_true]
    exact ⟨M', rfl, hm, hs1⟩
  · by_cases c2 : i ≥ (L.length : Int)
    · have hb : casB L i old = false := by unfold casB inR; exact decide_eq_false fun h => by omega
      rw [hb]
      have c2' : i ≥ Int.ofNat L.length := c2
      simp only [c1, c2', decide_true, decide_false, Bool.false_eq_true, if_false, if_true]
      exact ⟨M', rfl, hm, hs1⟩
    · have hin : inR L i := ⟨by omega, by omega⟩
      obtain ⟨a, rfl, hc⟩ := hm.cs.pos (by omega)
      have hi : 0 ≤ i ∧ i < Int.ofNat L.length := ⟨by omega, by show i < (L.length : Int); omega⟩
      have c2' : ¬ i ≥ Int.ofNat L.length := c2
      simp only [c1, c2', decide_false, Bool.false_eq_true, if_false, hi, and_self, if_true, Nat.zero_add, Nat.mul_one, hc.ld, ints_at hin, intOf_int, Option.bind_some]
      by_cases e : L.getD i.toNat 0 = old
      · have hb : casB L i old = true := by unfold casB getI; rw [if_pos hin, e]; simp [hin]
        rw [hb]
        simp only [e, bne_self_eq_false, Bool.false_eq_true, if_false, if_true]
        obtain ⟨M2, x1, x2, x3, _⟩ := hc.wr (o := i.toNat) (vs := [.int .u64 to]) (by simp; omega)
        rw [wrL_ints] at x2
        have hab : ¬ b = a := by have := h.ne; simpa using this
        have w2' := w2.same x3 (by simpa using hab)
        obtain ⟨M3, y1, y2, y3, _⟩ := w2'.wr (o := 2) (vs := [.int .i64 ((wi + 1 : Nat) : Int)]) (by simp)
        simp only [wrL, List.set_cons_zero, List.set_cons_succ] at y2
        have hw2 : IntKind.wrap .i64 ((wi : Int) + 1) = ((wi + 1 : Nat) : Int) := by rw [w64 (by omega)]; rfl
        simp only [x1, Option.bind_some, w2'.ld, get2, intOf_int, hw2, y1]
        refine ⟨M3, rfl, ⟨by simpa using y2, ?_, h.ne⟩, ((hs1.trans x3).trans y3).mono (by simp)⟩
        obtain ⟨_, hcase⟩ := h.cs
        rcases hcase with ⟨h0, _⟩ | ⟨a', h0, hc1, _⟩
        · cases h0
        · subst hc1
          have := x2.same y3 (by simp; omega)
          exact .of this (by simp)
      · have hb : casB L i old = false := by unfold casB getI; rw [if_pos hin]; exact decide_eq_false fun h => e h.2
        rw [hb]
        have : (L.getD i.toNat 0 != old) = true := by simpa using e
        simp only [this, if_true]
        exact ⟨M', rfl, hm, hs1⟩

theorem sub_succ (L : List Int) (fr n : Int) (i : Nat) (hi : i < L.length) :
    sub (L.take (i + 1)) fr n = if 0 ≤ fr ∧ 0 ≤ n ∧ fr ≤ i ∧ (i : Int) - fr < n then sub (L.take i) fr n ++ [L.getD i 0] else sub (L.take i) fr n := by
  unfold sub
  by_cases h0 : fr < 0 ∨ n < 0
  · rw [if_pos h0, if_neg (by omega), if_pos h0]
  · rw [if_neg h0]
    simp only [if_neg h0]
    have e : L.take (i + 1) = L.take i ++ [L.getD i 0] := by
      rw [List.take_add_one, List.getD_eq_getElem?_getD, List.getElem?_eq_getElem hi]; rfl
    rw [e, List.drop_append, List.take_append, List.length_drop, List.length_take, Nat.min_eq_left (by omega)]
    by_cases h1 : fr ≤ i
    · rw [show fr.toNat - i = 0 by omega, List.drop_zero]
      by_cases h2 : (i : Int) - fr < n
      · rw [if_pos ⟨by omega, by omega, h1, h2⟩]
        congr 1
        rw [List.take_of_length_le]
        simp; omega
      · rw [if_neg (by omega), show n.toNat - (i - fr.toNat) = 0 by omega]
        simp
    · rw [if_neg (by omega), show [L.getD i 0].drop (fr.toNat - i) = [] from List.drop_eq_nil_of_le (by simp; omega)]
      simp

end Go.Proofs.Ytpnknolehckfhaa
