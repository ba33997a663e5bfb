/- What the document's claims answer. -/
import Derived.Test.YtjmeilpffmhojaaBatch
set_option linter.unusedVariables false
set_option linter.unusedSimpArgs false
namespace Go.Proofs.Ytjmeilpffmhojaa
open Go Go.Ax

theorem mid_get {A X B : List Value} {j : Nat} (h : j < X.length) : (A ++ X ++ B)[A.length + j]? = X[j]? := by
  rw [List.append_assoc, List.getElem?_append_right (by omega), Nat.add_sub_cancel_left, List.getElem?_append_left h]

theorem mid_set (A X B : List Value) {j : Nat} {v : Value} (h : j < X.length) : wrL (A ++ X ++ B) (A.length + j) [v] = A ++ X.set j v ++ B := by
  simp only [wrL]
  rw [List.append_assoc, List.set_append_right _ _ (by omega), Nat.add_sub_cancel_left, List.set_append_left _ _ h, List.append_assoc]

/-- A write into the middle of a block. -/
theorem mid_wr {M : AMem} {b : Nat} {A X B : List Value} (h : Cells M b (A ++ X ++ B)) (j : Nat) (v : Value) (hj : j < X.length) :
    ∃ M', M.wr b (A.length + j) [v] = some M' ∧ Cells M' b (A ++ X.set j v ++ B) ∧ Same M M' [b] := by
  obtain ⟨M', w1, w2, w3, _⟩ := h.wr (o := A.length + j) (vs := [v]) (by simp; omega)
  rw [mid_set _ _ _ hj] at w2
  exact ⟨M', w1, w2, w3⟩

theorem mid_ld {M : AMem} {b : Nat} {A X B : List Value} (h : Cells M b (A ++ X ++ B)) (j : Nat) (hj : j < X.length) : M.ld b (A.length + j) = X[j]? := by
  rw [h.ld, mid_get hj]

theorem mid_ld0 {M : AMem} {b : Nat} {A X B : List Value} (h : Cells M b (A ++ X ++ B)) (hj : 0 < X.length) : M.ld b A.length = X[0]? := mid_ld h 0 hj

theorem flat_split {T : Type} (enc : T → List Value) {l : List T} {k : Nat} {x : T} (h : l[k]? = some x) : l.flatMap enc = (l.take k).flatMap enc ++ enc x ++ (l.drop (k + 1)).flatMap enc := by
  obtain ⟨hk, rfl⟩ := List.getElem?_eq_some_iff.1 h
  exact (congrArg (List.flatMap enc) (List.take_append_drop k l)).symm.trans (by rw [List.drop_eq_getElem_cons hk, List.flatMap_append, List.flatMap_cons, List.append_assoc])

theorem flat_set {T : Type} (enc : T → List Value) {l : List T} {k : Nat} (x : T) (h : k < l.length) : (l.set k x).flatMap enc = (l.take k).flatMap enc ++ enc x ++ (l.drop (k + 1)).flatMap enc := by
  rw [flat_split enc (l := l.set k x) (k := k) (x := x) (by simp [h]), List.take_set_of_le (Nat.le_refl k), List.drop_set_of_lt (by omega)]

theorem rnewc_spec {all size : Int} (h : CFit all size) : ∃ M', LL.call 15 [.int .i64 all, .int .i64 size] [] = some (.tuple #[.agg (encR all size .init).toArray, .bool true], M') := by
  rw [L_call15, E15]
  have := h.a0; have := h.a1; have := h.s0; have := h.s1
  simp only [show ¬ all < 0 by omega, show ¬ all > 1048576 by omega, show ¬ size < 1 by omega, show ¬ size > 65536 by omega, decide_false, Bool.false_eq_true, if_false]
  exact ⟨_, rfl⟩

def encZ : List Value := [.int .i64 0, .int .i64 0, .int .i64 0, .bool false, .bool false, .int .u64 0, .int .i64 0, .int .i64 0]

theorem rnewc_none {all size : Int} (h : ¬ CFit all size) : ∃ M', LL.call 15 [.int .i64 all, .int .i64 size] [] = some (.tuple #[.agg encZ.toArray, .bool false], M') := by
  rw [L_call15, E15]
  by_cases c1 : all < 0
  · simp only [c1, decide_true, if_true]; exact ⟨_, rfl⟩
  by_cases c2 : all > 1048576
  · simp only [c1, c2, decide_true, decide_false, Bool.false_eq_true, if_false, if_true]; exact ⟨_, rfl⟩
  by_cases c3 : size < 1
  · simp only [c1, c2, c3, decide_true, decide_false, Bool.false_eq_true, if_false, if_true]; exact ⟨_, rfl⟩
  by_cases c4 : size > 65536
  · simp only [c1, c2, c3, c4, decide_true, decide_false, Bool.false_eq_true, if_false, if_true]; exact ⟨_, rfl⟩
  exact absurd ⟨by omega, by omega, by omega, by omega⟩ h

theorem rstep_spec {all size : Int} (hf : CFit all size) {s : CS} (hk : s.ok all) {M : AMem} {c : Nat} {A B : List Value} {rb : Nat} {p : Option Addr} {pc st wi : Nat} {cur : Int} (h : Cells M c (A ++ encR all size s ++ B)) (hm : IsRef M rb p pc [cur] st wi)
    (hst : st < 1000000000) (hwi : wi < 1000000000) (hb : c ≠ rb) (ha : c ∉ blk p) (h0 : 0 ≤ cur) :
    ∃ M' st' wi', LL.call 18 [.pointer (some ⟨c, A.length, none⟩), pt rb] M = some (.bool (decide (s.ph < 2)), M') ∧ Cells M' c (A ++ encR all size (stepS all size cur s).1 ++ B) ∧
      IsRef M' rb p pc [(stepS all size cur s).2] st' wi' ∧ st' ≤ st + 1 ∧ wi' ≤ wi + 1 ∧ Same M M' (c :: rb :: blk p) := by
  rw [L_call18, E18]
  have e8 : ∀ x, (encR all size x).length = 8 := fun _ => rfl
  have := hf.a0; have := hf.a1; have := hf.s0; have := hf.s1; have := hk.lost
  have l1 : M.ld c (A.length + 1) = some (.int .i64 size) := mid_ld h 1 (by simp [e8])
  have l4 : M.ld c (A.length + 4) = some (.bool (decide (1 < s.ph))) := mid_ld h 4 (by simp [e8])
  have l3 : M.ld c (A.length + 3) = some (.bool (decide (s.ph = 1))) := mid_ld h 3 (by simp [e8])
  have z1 : (size == 0) = false := by simp; omega
  have m0 : M.ld rb 0 = some (.slice p [cur].length pc) := hm.hd.ld 0
  have z2 : (Int.ofNat ([cur] : List Int).length == 0) = false := rfl
  simp only [l1, intOf_int, Option.bind_some, z1, Bool.false_eq_true, if_false, l4, boolOf_bool]
  by_cases c2 : 1 < s.ph
  · simp only [c2, decide_true, if_true, show ¬ s.ph < 2 by omega, decide_false]
    have : stepS all size cur s = (s, cur) := by unfold stepS; rw [if_neg (by omega), if_neg (by omega)]
    rw [this]
    exact ⟨M, st, wi, rfl, h, hm, by omega, by omega, .refl _ _⟩
  · simp only [c2, decide_false, Bool.false_eq_true, if_false, m0, sliceOf_slice, Option.bind_some, z2, l3, boolOf_bool]
    have hne : ∀ x ∈ blk p, x ∉ [c] := fun x hx hc => by simp at hc; subst hc; exact ha hx
    by_cases c0 : s.ph = 0
    · have c1 : ¬ s.ph = 1 := by omega
      obtain ⟨M1, g1, g2, g3⟩ := rload_spec hm (by omega) 0
      have e1 : getI [cur] 0 = cur := by simp [getI, inR]
      rw [e1] at g1
      have k1 := h.same g3 (by simp [hb])
      obtain ⟨M2, w1, w2, w3⟩ := mid_wr k1 5 (.int .u64 cur) (by simp [e8])
      have a5 : M2.ld c (A.length + 5) = some (.int .u64 cur) := mid_ld w2 5 (by simp [e8])
      have a0 : M2.ld c A.length = some (.int .i64 all) := mid_ld0 w2 (by simp [e8])
      have hw : IntKind.wrap .u64 all = all := wu64 (by omega)
      obtain ⟨M3, x1, x2, x3⟩ := mid_wr w2 3 (.bool (decide (cur < all))) (by simp [e8])
      have a3 : M3.ld c (A.length + 3) = some (.bool (decide (cur < all))) := mid_ld x2 3 (by simp [e8])
      obtain ⟨M4, y1, y2, y3⟩ := mid_wr x2 4 (.bool (!decide (cur < all))) (by simp [e8])
      simp only [c1, decide_false, Bool.not_false, if_true, g1, Option.bind_some, tup2, get0, get1, intOf_int, boolOf_bool, w1, a5, a0, hw, x1, a3, y1, P18_22_eq]
      have f := ((g2.same w3 (by simp; omega) hne).same x3 (by simp; omega) hne).same y3 (by simp; omega) hne
      refine ⟨M4, st + 1, wi, by simp [show s.ph < 2 by omega], ?_, ?_, by omega, by omega, ((g3.trans w3).trans (x3.trans y3)).mono (by simp)⟩
      · unfold stepS
        rw [if_pos c0]
        by_cases cc : cur ≥ all
        · simpa [encR, c0, cc, show ¬ cur < all by omega] using y2
        · simpa [encR, c0, cc, show cur < all by omega] using y2
      · unfold stepS; rw [if_pos c0]; exact f
    · have c1 : s.ph = 1 := by omega
      have := hk.seen c1
      obtain ⟨M1, w1, w2, w3⟩ := mid_wr h 3 (.bool false) (by simp [e8])
      have a0 : M1.ld c A.length = some (.int .i64 all) := mid_ld0 w2 (by simp [e8])
      have a5 : M1.ld c (A.length + 5) = some (.int .u64 s.seen) := mid_ld w2 5 (by simp [e8])
      have a1 : M1.ld c (A.length + 1) = some (.int .i64 size) := mid_ld w2 1 (by simp [e8])
      have v1 : IntKind.wrap .i64 s.seen = s.seen := w64 (by omega)
      have v2 : IntKind.wrap .i64 (s.seen + size) = s.seen + size := w64 (by omega)
      have v3 : (if s.seen + size < all then s.seen + size else all) = s.seen + min size (all - s.seen) := by split <;> omega
      have v4 : IntKind.wrap .u64 (s.seen + min size (all - s.seen)) = s.seen + min size (all - s.seen) := wu64 (by omega)
      have v5 : IntKind.wrap .i64 ((s.lost : Int) + 1) = ((s.lost + 1 : Nat) : Int) := by rw [w64 (by omega)]; rfl
      have f0 := hm.same w3 (by simp; omega) hne
      obtain ⟨M2, g1, g2, g3⟩ := rcas_spec f0 (by omega) (by omega) 0 s.seen (s.seen + min size (all - s.seen))
      have hc : casB [cur] 0 s.seen = decide (cur = s.seen) := by simp [casB, inR, getI]
      have k1 := w2.same g3 (by simp; exact ⟨hb, ha⟩)
      have b5 : M2.ld c (A.length + 5) = some (.int .u64 s.seen) := mid_ld k1 5 (by simp [e8])
      have b2 : M2.ld c (A.length + 2) = some (.int .i64 s.lost) := mid_ld k1 2 (by simp [e8])
      simp only [c1, decide_true, Bool.not_true, Bool.false_eq_true, if_false, w1, a0, a5, a1, intOf_int, Option.bind_some, v1, v2, v3, v4, g1, boolOf_bool, hc]
      unfold stepS
      simp only [c1, show ¬ (1 = 0) by omega, if_false, if_true]
      by_cases e : cur = s.seen
      · have hl : casL [cur] 0 s.seen (s.seen + min size (all - s.seen)) = [s.seen + min size (all - s.seen)] := by unfold casL; rw [hc, if_pos (decide_eq_true e)]; rfl
        rw [hl] at g2
        obtain ⟨M3, x1, x2, x3⟩ := mid_wr k1 6 (.int .i64 s.seen) (by simp [e8])
        obtain ⟨M4, y1, y2, y3⟩ := mid_wr x2 7 (.int .i64 (s.seen + min size (all - s.seen))) (by simp [e8])
        obtain ⟨M5, z1, z2, z3⟩ := mid_wr y2 4 (.bool true) (by simp [e8])
        have f := ((g2.same x3 (by simp; omega) hne).same y3 (by simp; omega) hne).same z3 (by simp; omega) hne
        simp only [e, decide_true, if_true, b5, intOf_int, Option.bind_some, v1, x1, y1, z1, P18_40_eq]
        refine ⟨M5, _, _, rfl, ?_, f, Nat.le_refl _, by split <;> omega, (((w3.trans g3).trans (x3.trans y3)).trans z3).mono (by simp; intro x hx; rcases hx with hx | hx <;> simp [hx])⟩
        simpa [encR, c1] using z2
      · have hl : casL [cur] 0 s.seen (s.seen + min size (all - s.seen)) = [cur] := by unfold casL; rw [hc, if_neg (by simpa using e)]
        rw [hl] at g2
        obtain ⟨M3, x1, x2, x3⟩ := mid_wr k1 2 (.int .i64 ((s.lost + 1 : Nat) : Int)) (by simp [e8])
        have f := g2.same x3 (by simp; omega) hne
        simp only [e, decide_false, Bool.false_eq_true, if_false, b2, intOf_int, Option.bind_some, v5, x1, P18_40_eq]
        refine ⟨M3, _, _, rfl, ?_, f, Nat.le_refl _, by split <;> omega, ((w3.trans g3).trans x3).mono (by simp; intro x hx; rcases hx with hx | hx <;> simp [hx])⟩
        simpa [encR, c1] using x2

end Go.Proofs.Ytjmeilpffmhojaa
