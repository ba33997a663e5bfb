/- What the document's memory answers. -/
import Derived.Test.YtaepdefnomcllaaEqRef30
import Derived.Test.YtaepdefnomcllaaCell
set_option linter.unusedVariables false
set_option linter.unusedSimpArgs false
namespace Go.Proofs.Ytaepdefnomcllaa
open Go Go.Ax

/-- The document's memory: its block, its cells' slice, the cells, its steps and wins. -/
structure IsRef (M : AMem) (b : Nat) (p : Option Addr) (c : Nat) (L : List Int) (st wi : Nat) : Prop where
  hd : Cells M b [.slice p L.length c, .int .i64 st, .int .i64 wi]
  cs : Slc M 1 p L.length c (ints .u64 L)
  ne : b ∉ blk p

theorem IsRef.same {M M' : AMem} {S : List Nat} {b : Nat} {p : Option Addr} {c : Nat} {L : List Int} {st wi : Nat} (h : IsRef M b p c L st wi) (k : Same M M' S) (hb : b ∉ S) (ha : ∀ x ∈ blk p, x ∉ S) : IsRef M' b p c L st wi :=
  ⟨h.hd.same k hb, h.cs.same k ha, h.ne⟩

theorem rnew_spec (n : Int) (M : AMem) (h : 0 ≤ n ∧ n ≤ 262144) :
    ∃ M' p, LL.call 25 [.int .i64 n] M = some (.tuple #[.agg #[.slice p n.toNat 1, .int .i64 0, .int .i64 0], .bool true], M') ∧ Slc M' 1 p n.toNat 1 (ints .u64 (List.replicate n.toNat 0)) ∧ Same M M' [] ∧ ∀ x ∈ blk p, M.length ≤ x := by
  rw [L_call25, E25]
  simp only [show ¬ n < 0 by omega, show ¬ n > 262144 by omega, decide_false, Bool.false_eq_true, if_false]
  rw [if_pos (by omega)]
  have g0 := cells_new M [.slice none 0 0, .int .i64 0, .int .i64 0] 0
  have s0 := same_app M [AObj.cells [.slice none 0 0, .int .i64 0, .int .i64 0] ⟨false, 0⟩]
  generalize hM0 : M ++ [AObj.cells [.slice none 0 0, .int .i64 0, .int .i64 0] ⟨false, 0⟩] = M0 at g0 s0
  have l0 : M0.length = M.length + 1 := by rw [← hM0]; simp
  have g1 := cells_new M0 (List.replicate n.toNat (.int .u64 0)) 0
  have s1 := same_app M0 [AObj.cells (List.replicate n.toNat (.int .u64 0)) ⟨false, 0⟩]
  have g0' := g0.same s1 (by simp)
  generalize hM1 : M0 ++ [AObj.cells (List.replicate n.toNat (.int .u64 0)) ⟨false, 0⟩] = M1 at g1 s1 g0'
  obtain ⟨M2, w1, w2, w3, _⟩ := g0'.wr (o := 0) (vs := [.slice (some ⟨M0.length, 0, none⟩) n.toNat 1, .int .i64 0, .int .i64 0]) (by simp)
  simp only [wrL, List.set_cons_zero, List.set_cons_succ] at w2
  simp only [w1, Option.bind_some, w2.ld, get0, get1, get2, sliceOf_slice, intOf_int]
  refine ⟨M2, some ⟨M0.length, 0, none⟩, rfl, .of ?_ (by simp), ((s0.trans s1).trans w3).mono' (by simp), by simp; omega⟩
  have := g1.same w3 (by simp; omega)
  simpa [ints] using this

theorem rnew_none (n : Int) (M : AMem) (h : ¬ (0 ≤ n ∧ n ≤ 262144)) :
    ∃ M', LL.call 25 [.int .i64 n] M = some (.tuple #[.agg #[.slice none 0 0, .int .i64 0, .int .i64 0], .bool false], M') ∧ Same M M' [] := by
  rw [L_call25, E25]
  have g0 := cells_new M [.slice none 0 0, .int .i64 0, .int .i64 0] 0
  have s0 := same_app M [AObj.cells [.slice none 0 0, .int .i64 0, .int .i64 0] ⟨false, 0⟩]
  obtain ⟨M2, w1, w2, w3, _⟩ := g0.wr (o := 0) (vs := [.slice none 0 0, .int .i64 0, .int .i64 0]) (by simp)
  simp only [wrL, List.set_cons_zero, List.set_cons_succ] at w2
  have hs : Same M M2 [] := (s0.trans w3).mono' (by simp)
  by_cases c1 : n < 0
  · simp only [c1, decide_true, if_true, w1, Option.bind_some, w2.ld, get0, get1, get2, sliceOf_slice, intOf_int]
    exact ⟨M2, rfl, hs⟩
  · simp only [c1, show n > 262144 by omega, decide_true, decide_false, Bool.false_eq_true, if_false, if_true, w1, Option.bind_some, w2.ld, get0, get1, get2, sliceOf_slice, intOf_int]
    exact ⟨M2, rfl, hs⟩

theorem rload_spec {M : AMem} {b : Nat} {p : Option Addr} {c : Nat} {L : List Int} {st wi : Nat} (h : IsRef M b p c L st wi) (hst : st < 1000000000000000000) (i : Int) :
    ∃ M', LL.call 26 [pt b, .int .i64 i] M = some (.tuple #[.int .u64 (getI L i), .bool (decide (inR L i))], M') ∧ IsRef M' b p c L (st + 1) wi ∧ Same M M' [b] := by
  rw [L_call26, E26]
  obtain ⟨M', w1, w2, w3, _⟩ := h.hd.wr (o := 1) (vs := [.int .i64 ((st + 1 : Nat) : Int)]) (by simp)
  simp only [wrL, List.set_cons_zero, List.set_cons_succ] at w2
  have hw : IntKind.wrap .i64 ((st : Int) + 1) = ((st + 1 : Nat) : Int) := by rw [w64 (by omega)]; rfl
  have hne : ∀ x ∈ blk p, x ∉ [b] := fun x hx hb => by simp at hb; subst hb; exact h.ne hx
  have hm : IsRef M' b p c L (st + 1) wi := ⟨w2, h.cs.same w3 hne, h.ne⟩
  refine ⟨M', ?_, hm, w3⟩
  simp only [h.hd.ld, get0, get1, Nat.zero_add, intOf_int, Option.bind_some, hw, w1, w2.ld, sliceOf_slice]
  unfold getI inR
  by_cases c1 : i < 0
  · simp [c1, show ¬ 0 ≤ i by omega]
  · by_cases c2 : i ≥ (L.length : Int)
    · simp [c1, show ¬ i < (L.length : Int) by omega, show (L.length : Int) ≤ i by omega]
    · have hin : inR L i := ⟨by omega, by omega⟩
      obtain ⟨a, rfl, hc⟩ := hm.cs.pos (by omega)
      have hi : 0 ≤ i ∧ i < Int.ofNat L.length := ⟨by omega, by show i < (L.length : Int); omega⟩
      have c2' : ¬ i ≥ Int.ofNat L.length := c2
      simp only [c1, c2', decide_false, Bool.false_eq_true, if_false, hi, and_self, if_true, Nat.zero_add, Nat.mul_one, hc.ld, ints_at hin, intOf_int, Option.bind_some, decide_true]
      have : (0 ≤ i ∧ i < (L.length : Int)) := hin
      simp only [this, and_self, if_true, decide_true]

theorem rcas_spec {M : AMem} {b : Nat} {p : Option Addr} {c : Nat} {L : List Int} {st wi : Nat} (h : IsRef M b p c L st wi) (hst : st < 1000000000000000000) (hwi : wi < 1000000000000000000) (i old to : Int) :
    ∃ M', LL.call 29 [pt b, .int .i64 i, .int .u64 old, .int .u64 to] M = some (.bool (casB L i old), M') ∧
      IsRef M' b p c (casL L i old to) (st + 1) (if casB L i old then wi + 1 else wi) ∧ Same M M' (b :: blk p) := by
  rw [L_call29, E29]
  obtain ⟨M', w1, w2, w3, _⟩ := h.hd.wr (o := 1) (vs := [.int .i64 ((st + 1 : Nat) : Int)]) (by simp)
  simp only [wrL, List.set_cons_zero, List.set_cons_succ] at w2
  have hw : IntKind.wrap .i64 ((st : Int) + 1) = ((st + 1 : Nat) : Int) := by rw [w64 (by omega)]; rfl
  have hne : ∀ x ∈ blk p, x ∉ [b] := fun x hx hb => by simp at hb; subst hb; exact h.ne hx
  have hm : IsRef M' b p c L (st + 1) wi := ⟨w2, h.cs.same w3 hne, h.ne⟩
  have hs1 : Same M M' (b :: blk p) := w3.mono (by simp)
  simp only [h.hd.ld, get0, get1, Nat.zero_add, intOf_int, Option.bind_some, hw, w1, w2.ld, sliceOf_slice]
  unfold casL
  by_cases c1 : i < 0
  · have hb : casB L i old = false := by unfold casB inR; exact decide_eq_false fun h => by omega
    rw [hb]
    simp only [c1, decide_true, if_true]
    exact ⟨M', rfl, hm, hs1⟩
  · by_cases c2 : i ≥ (L.length : Int)
    · have hb : casB L i old = false := by unfold casB inR; exact decide_eq_false fun h => by omega
      rw [hb]
      have c2' : i ≥ Int.ofNat L.length := c2
      simp only [c1, c2', decide_true, decide_false, Bool.false_eq_true, if_false, if_true]
      exact ⟨M', rfl, hm, hs1⟩
    · have hin : inR L i := ⟨by omega, by omega⟩
      obtain ⟨a, rfl, hc⟩ := hm.cs.pos (by omega)
      have hi : 0 ≤ i ∧ i < Int.ofNat L.length := ⟨by omega, by show i < (L.length : Int); omega⟩
      have c2' : ¬ i ≥ Int.ofNat L.length := c2
      simp only [c1, c2', decide_false, Bool.false_eq_true, if_false, hi, and_self, if_true, Nat.zero_add, Nat.mul_one, hc.ld, ints_at hin, intOf_int, Option.bind_some]
      by_cases e : L.getD i.toNat 0 = old
      · have hb : casB L i old = true := by unfold casB getI; rw [if_pos hin, e]; simp [hin]
        rw [hb]
        simp only [e, bne_self_eq_false, Bool.false_eq_true, if_false, if_true]
        obtain ⟨M2, x1, x2, x3, _⟩ := hc.wr (o := i.toNat) (vs := [.int .u64 to]) (by simp; omega)
        rw [wrL_ints] at x2
        have hab : ¬ b = a := by have := h.ne; simpa using this
        have w2' := w2.same x3 (by simpa using hab)
        obtain ⟨M3, y1, y2, y3, _⟩ := w2'.wr (o := 2) (vs := [.int .i64 ((wi + 1 : Nat) : Int)]) (by simp)
        simp only [wrL, List.set_cons_zero, List.set_cons_succ] at y2
        have hw2 : IntKind.wrap .i64 ((wi : Int) + 1) = ((wi + 1 : Nat) : Int) := by rw [w64 (by omega)]; rfl
        simp only [x1, Option.bind_some, w2'.ld, get2, intOf_int, hw2, y1]
        refine ⟨M3, rfl, ⟨by simpa using y2, ?_, h.ne⟩, ((hs1.trans x3).trans y3).mono (by simp)⟩
        obtain ⟨_, hcase⟩ := h.cs
        rcases hcase with ⟨h0, _⟩ | ⟨a', h0, hc1, _⟩
        · cases h0
        · subst hc1
          have := x2.same y3 (by simp; omega)
          exact .of this (by simp)
      · have hb : casB L i old = false := by unfold casB getI; rw [if_pos hin]; exact decide_eq_false fun h => e h.2
        rw [hb]
        have : (L.getD i.toNat 0 != old) = true := by simpa using e
        simp only [this, if_true]
        exact ⟨M', rfl, hm, hs1⟩

theorem sub_succ (L : List Int) (fr n : Int) (i : Nat) (hi : i < L.length) :
    sub (L.take (i + 1)) fr n = if 0 ≤ fr ∧ 0 ≤ n ∧ fr ≤ i ∧ (i : Int) - fr < n then sub (L.take i) fr n ++ [L.getD i 0] else sub (L.take i) fr n := by
  unfold sub
  by_cases h0 : fr < 0 ∨ n < 0
  · rw [if_pos h0, if_neg (by omega), if_pos h0]
  · rw [if_neg h0]
    simp only [if_neg h0]
    have e : L.take (i + 1) = L.take i ++ [L.getD i 0] := by
      rw [List.take_add_one, List.getD_eq_getElem?_getD, List.getElem?_eq_getElem hi]; rfl
    rw [e, List.drop_append, List.take_append, List.length_drop, List.length_take, Nat.min_eq_left (by omega)]
    by_cases h1 : fr ≤ i
    · rw [show fr.toNat - i = 0 by omega, List.drop_zero]
      by_cases h2 : (i : Int) - fr < n
      · rw [if_pos ⟨by omega, by omega, h1, h2⟩]
        congr 1
        rw [List.take_of_length_le]
        simp; omega
      · rw [if_neg (by omega), show n.toNat - (i - fr.toNat) = 0 by omega]
        simp
    · rw [if_neg (by omega), show [L.getD i 0].drop (fr.toNat - i) = [] from List.drop_eq_nil_of_le (by simp; omega)]
      simp

theorem rcells_loop {b : Nat} {p : Option Addr} {c : Nat} {L : List Int} {st wi : Nat} (hL : L.length ≤ 262144) (fr n : Int) (hfr : -9223372036854775808 ≤ fr ∧ fr ≤ 9223372036854775807) : ∀ (d i : Nat) (M : AMem) (q : Option Addr) (qc : Nat), i + d = L.length →
    IsRef M b p c L st wi → Slc M 1 q (sub (L.take i) fr n).length qc (ints .u64 (sub (L.take i) fr n)) → (∀ x ∈ blk q, x ≠ b ∧ x ∉ blk p) →
    ∃ M' q' qc', P35_8 LL (some ⟨b, 0, none⟩) fr n q (sub (L.take i) fr n).length qc i M = some (.slice q' (sub L fr n).length qc', M') ∧ Slc M' 1 q' (sub L fr n).length qc' (ints .u64 (sub L fr n)) ∧ Grn M q M' q' := by
  intro d
  induction d with
  | zero =>
    intro i M q qc hi h hq hn
    obtain rfl : i = L.length := by omega
    rw [List.take_length] at hq ⊢
    refine ⟨M, q, qc, ?_, hq, .refl _ _⟩
    rw [P35_8_eq LL L_loop]
    simp [h.hd.ld, P35_23_eq]
  | succ d ih =>
    intro i M q qc hi h hq hn
    have hs := sub_succ L fr n i (by omega)
    have hlen : (sub (L.take i) fr n).length ≤ 262144 := by
      unfold sub; split
      · simp
      · simp; omega
    rw [P35_8_eq LL L_loop]
    have hlt : (i : Int) < Int.ofNat L.length := by show (i : Int) < (L.length : Int); omega
    simp only [h.hd.ld, get0, sliceOf_slice, Option.bind_some, hlt, decide_true, if_true]
    have hw1 : IntKind.wrap .i64 ((i : Int) + 1) = ((i + 1 : Nat) : Int) := by rw [w64 (by omega)]; rfl
    -- nothing is appended
    have keep : ¬ (0 ≤ fr ∧ 0 ≤ n ∧ fr ≤ i ∧ (i : Int) - fr < n) → ∃ M' q' qc', P35_22 LL (some ⟨b, 0, none⟩) fr n q (sub (L.take i) fr n).length qc i M = some (.slice q' (sub L fr n).length qc', M') ∧ Slc M' 1 q' (sub L fr n).length qc' (ints .u64 (sub L fr n)) ∧ Grn M q M' q' := fun hc => by
      rw [if_neg hc] at hs
      obtain ⟨M', q', qc', k1, k2, k3⟩ := ih (i + 1) M q qc (by omega) h (by rw [hs]; exact hq) hn
      refine ⟨M', q', qc', ?_, k2, k3⟩
      rw [← k1, P35_22_eq, hw1, hs]
    by_cases c1 : fr ≥ 0
    · by_cases c2 : n ≥ 0
      · by_cases c3 : (i : Int) ≥ fr
        · have hw : IntKind.wrap .i64 ((i : Int) - fr) = (i : Int) - fr := w64 (by omega)
          by_cases c4 : (i : Int) - fr < n
          · have hin : inR L i := ⟨by omega, by omega⟩
            obtain ⟨a, rfl, hc⟩ := h.cs.pos (by omega)
            have hi2 : (0 : Int) ≤ i ∧ (i : Int) < Int.ofNat L.length := ⟨by omega, hlt⟩
            rw [if_pos ⟨c1, c2, c3, c4⟩] at hs
            obtain ⟨M1, h1, h2, h3⟩ := grn_row (bytes := 8) (new := [.int .u64 (L.getD i 0)]) (m := 1) (v := 0) hq rfl (by omega) (by omega)
            have e2 : ints .u64 (sub (L.take i) fr n) ++ [.int .u64 (L.getD i 0)] = ints .u64 (sub (L.take (i + 1)) fr n) := by rw [hs]; simp [ints]
            have e3 : (sub (L.take i) fr n).length + 1 = (sub (L.take (i + 1)) fr n).length := by rw [hs]; simp
            rw [e2, e3] at h2
            have hb1 : ∀ x ∈ blk q, x ≠ b := fun x hx => (hn x hx).1
            obtain ⟨M', q', qc', k1, k2, k3⟩ := ih (i + 1) M1 (some ⟨M.length + 1, 0, none⟩) 1 (by omega) (h.same h3.same (fun hb => (hn b hb).1 rfl) (fun x hx hxq => (hn x hxq).2 hx)) h2 (by
              intro x hx
              simp at hx
              have q1 := h.hd.lt
              have q2 := hc.lt
              simp
              omega)
            refine ⟨M', q', qc', ?_, k2, h3.trans k3⟩
            have hrow := rowOf_new M 1 1 [.int .u64 (L.getD i 0)] 0 1 rfl
            have hat := ints_at hin
            rw [Int.toNat_natCast] at hat
            simp only [c1, c2, c3, hw, c4, hi2, and_self, decide_true, if_true, Nat.zero_add, Nat.mul_one, Int.toNat_natCast, hc.ld, hat, intOf_int, Option.bind_some, hrow, h1, P35_22_eq, hw1, e3]
            exact k1
          · simp only [c1, c2, c3, hw, c4, decide_true, decide_false, Bool.false_eq_true, if_false, if_true]
            exact keep (by omega)
        · simp only [c1, c2, c3, decide_true, decide_false, Bool.false_eq_true, if_false, if_true]
          exact keep (by omega)
      · simp only [c1, c2, decide_true, decide_false, Bool.false_eq_true, if_false, if_true]
        exact keep (by omega)
    · simp only [c1, decide_false, Bool.false_eq_true, if_false]
      exact keep (by omega)

theorem rcells_spec {M : AMem} {b : Nat} {p : Option Addr} {c : Nat} {L : List Int} {st wi : Nat} (h : IsRef M b p c L st wi) (hL : L.length ≤ 262144) (fr n : Int) (hfr : -9223372036854775808 ≤ fr ∧ fr ≤ 9223372036854775807) :
    ∃ M' q qc, LL.call 35 [pt b, .int .i64 fr, .int .i64 n] M = some (.slice q (sub L fr n).length qc, M') ∧ Slc M' 1 q (sub L fr n).length qc (ints .u64 (sub L fr n)) ∧
      Same M M' [] ∧ ∀ x ∈ blk q, M.length ≤ x := by
  rw [L_call35, E35]
  have e0 : sub (L.take 0) fr n = [] := by unfold sub; split <;> simp
  obtain ⟨M', q, qc, h1, h2, h3⟩ := rcells_loop hL fr n hfr L.length 0 M none 0 (by omega) h (by rw [e0]; exact .nil _ _ _) (by simp)
  rw [e0] at h1
  exact ⟨M', q, qc, h1, h2, h3.same, fun x hx => by simpa using h3.new x hx⟩

end Go.Proofs.Ytaepdefnomcllaa
