/- What the functions of claims answer. -/
import Derived.Test.YtjmeilpffmhojaaEqBatch
import Derived.Test.YtjmeilpffmhojaaEqRef35
import Derived.Test.YtjmeilpffmhojaaCell
import Derived.Test.YtjmeilpffmhojaaRef30
import Derived.Test.YtjmeilpffmhojaaAxMath
set_option linter.unusedVariables false
set_option linter.unusedSimpArgs false
namespace Go.Proofs.Ytjmeilpffmhojaa
open Go Go.Ax

/-- A claim: 0: it will read; 1: it will exchange; else it is over. -/
structure CS where
  ph : Nat
  seen : Int
  fr : Int
  to : Int
  lost : Nat

def CS.init : CS := ⟨0, 0, 0, 0, 0⟩

def fnv (n : Nat) : Value := if n = 0 then .func (.func 55) #[] #[] else if n = 1 then .func (.func 74) #[] #[] else .nilFunc

theorem any_fnv (n : Nat) : anyOf? (some (fnv n)) = some (fnv n) := by
  unfold fnv
  by_cases c0 : n = 0
  · rw [if_pos c0]; rfl
  · by_cases c1 : n = 1
    · rw [if_neg c0, if_pos c1]; rfl
    · rw [if_neg c0, if_neg c1]; rfl

theorem nil_fnv (n : Nat) : isNil 2 (fnv n) = some (decide (1 < n)) := by
  unfold fnv
  by_cases c0 : n = 0
  · rw [if_pos c0, c0]; rfl
  · by_cases c1 : n = 1
    · rw [if_neg c0, if_pos c1, c1]; rfl
    · rw [if_neg c0, if_neg c1]
      show some true = _
      rw [decide_eq_true (by omega)]

def encC (all size : Int) (s : CS) : List Value := [.int .i64 all, .int .i64 size, fnv s.ph, .bool true, .int .u64 s.seen, .int .i64 s.fr, .int .i64 s.to, .int .i64 s.lost]

def encR (all size : Int) (s : CS) : List Value := [.int .i64 all, .int .i64 size, .int .i64 s.lost, .bool (decide (s.ph = 1)), .bool (decide (1 < s.ph)), .int .u64 s.seen, .int .i64 s.fr, .int .i64 s.to]

/-- A step, and what stands in the cursor then. -/
def stepS (all size cur : Int) (s : CS) : CS × Int :=
  if s.ph = 0 then ({ s with seen := cur, ph := if cur ≥ all then 2 else 1 }, cur)
  else if s.ph = 1 then
    (if cur = s.seen then ({ s with ph := 2, fr := s.seen, to := s.seen + min size (all - s.seen) }, s.seen + min size (all - s.seen)) else ({ s with ph := 0, lost := s.lost + 1 }, cur))
  else (s, cur)

/-- Numbers that may be. -/
structure CFit (all size : Int) : Prop where
  a0 : 0 ≤ all
  a1 : all ≤ 1048576
  s0 : 1 ≤ size
  s1 : size ≤ 65536

structure CS.ok (all : Int) (s : CS) : Prop where
  seen : s.ph = 1 → 0 ≤ s.seen ∧ s.seen < all
  lost : s.lost < 1000000000

theorem bnew_spec {all size : Int} (h : CFit all size) (M : AMem) : ∃ M', LL.call 16 [.int .i64 all, .int .i64 size] M = some (pt M.length, M') ∧ Cells M' M.length (encC all size .init) ∧ Same M M' [] ∧ M'.length = M.length + 1 := by
  rw [L_call16, E16]
  have := h.a0; have := h.a1; have := h.s0; have := h.s1
  simp only [show ¬ all < 0 by omega, show ¬ all > 1048576 by omega, show ¬ size < 1 by omega, show ¬ size > 65536 by omega, decide_false, Bool.false_eq_true, if_false]
  exact ⟨_, rfl, cells_new _ _ _, same_app _ _, by simp⟩

theorem bnew_none {all size : Int} (h : ¬ CFit all size) (M : AMem) : LL.call 16 [.int .i64 all, .int .i64 size] M = some (.pointer none, M) := by
  rw [L_call16, E16]
  by_cases c1 : all < 0
  · simp [c1]
  by_cases c2 : all > 1048576
  · simp [c1, c2]
  by_cases c3 : size < 1
  · simp [c1, c2, c3]
  by_cases c4 : size > 65536
  · simp [c1, c2, c3, c4]
  exact absurd ⟨by omega, by omega, by omega, by omega⟩ h

theorem under_spec {all size : Int} {s : CS} {M : AMem} {c : Nat} (h : Cells M c (encC all size s)) : LL.call 56 [pt c] M = some (.bool (decide (s.ph < 2)), M) := by
  rw [L_call56, E56]
  have h2 : (encC all size s)[2]? = some (fnv s.ph) := rfl
  simp only [Option.isNone_some, Bool.not_false, if_true, Nat.zero_add, h.ld, h2, any_fnv, nil_fnv, Option.bind_some]
  congr 3
  by_cases c : s.ph < 2
  · simp [c, show ¬ 1 < s.ph by omega]
  · simp [c, show 1 < s.ph by omega]

theorem under_nil (M : AMem) : LL.call 56 [.pointer none] M = some (.bool false, M) := by
  rw [L_call56, E56]; simp

theorem done_spec {all size : Int} {s : CS} {M : AMem} {c : Nat} (h : Cells M c (encC all size s)) : LL.call 19 [pt c] M = some (.bool (decide (1 < s.ph)), M) := by
  rw [L_call19, E19]
  have h2 : (encC all size s)[2]? = some (fnv s.ph) := rfl
  have h3 : (encC all size s)[3]? = some (.bool true) := rfl
  simp only [Option.isNone_some, Bool.not_false, if_true, Nat.zero_add, h.ld, h2, h3, boolOf_bool, Option.bind_some, any_fnv, nil_fnv]

theorem done_nil (M : AMem) : LL.call 19 [.pointer none] M = some (.bool false, M) := by
  rw [L_call19, E19]; simp

theorem lost_spec {all size : Int} {s : CS} {M : AMem} {c : Nat} (h : Cells M c (encC all size s)) : LL.call 20 [pt c] M = some (.int .i64 s.lost, M) := by
  rw [L_call20, E20]
  have h2 : (encC all size s)[7]? = some (.int .i64 s.lost) := rfl
  simp [h.ld, h2]

theorem range_spec {all size : Int} {s : CS} {M : AMem} {c : Nat} (h : Cells M c (encC all size s)) :
    LL.call 21 [pt c] M = some (if 1 < s.ph then .tuple #[.int .i64 s.fr, .int .i64 s.to, .bool (decide (s.fr < s.to))] else .tuple #[.int .i64 0, .int .i64 0, .bool false], M) := by
  rw [L_call21, E21]
  have h5 : (encC all size s)[5]? = some (.int .i64 s.fr) := rfl
  have h6 : (encC all size s)[6]? = some (.int .i64 s.to) := rfl
  simp only [done_spec h, Option.bind_some, boolOf_bool, Nat.zero_add, h.ld, h5, h6, intOf_int]
  by_cases c1 : 1 < s.ph
  · simp [c1]
  · simp [c1]

theorem read_spec {all size : Int} (hf : CFit all size) {s : CS} {M : AMem} {c mb ma st wi : Nat} {cur : Int} (h : Cells M c (encC all size s)) (hm : IsMem M mb ma [cur] st wi) (hst : st < 1000000000) (hb : c ≠ mb) (ha : c ≠ ma) (h0 : 0 ≤ cur) :
    ∃ M', LL.call 55 [pt c, pt mb] M = some (.tuple #[], M') ∧ Cells M' c (encC all size { s with seen := cur, ph := if cur ≥ all then 2 else 1 }) ∧ IsMem M' mb ma [cur] (st + 1) wi ∧ Same M M' [c, mb] := by
  rw [L_call55, E55]
  obtain ⟨M1, g1, g2, g3⟩ := load_spec hm (by omega) 0
  have e1 : getI [cur] 0 = cur := by simp [getI, inR]
  rw [e1] at g1
  have k1 := h.same g3 (by simp [hb])
  obtain ⟨M2, w1, w2, w3, _⟩ := k1.wr (o := 4) (vs := [.int .u64 cur]) (by simp [encC])
  obtain ⟨M3, x1, x2, x3, _⟩ := w2.wr (o := 2) (vs := [.func (.func 74) #[] #[]]) (by simp [encC, wrL])
  have f2 := (g2.same w3 (by simp; omega) (by simp; omega)).same x3 (by simp; omega) (by simp; omega)
  have l4 : (wrL (wrL (encC all size s) 4 [.int .u64 cur]) 2 [.func (.func 74) #[] #[]])[4]? = some (.int .u64 cur) := rfl
  have l0 : (wrL (wrL (encC all size s) 4 [.int .u64 cur]) 2 [.func (.func 74) #[] #[]])[0]? = some (.int .i64 all) := rfl
  have hw : IntKind.wrap .u64 all = all := wu64 (by have := hf.a0; have := hf.a1; omega)
  simp only [g1, Option.bind_some, tup2, get0, get1, intOf_int, boolOf_bool, Nat.zero_add, w1, x1, x2.ld, l4, l0, hw]
  by_cases cc : cur ≥ all
  · obtain ⟨M4, y1, y2, y3, _⟩ := x2.wr (o := 2) (vs := [.nilFunc]) (by simp [encC, wrL])
    simp only [cc, decide_true, if_true, y1, Option.bind_some]
    refine ⟨M4, rfl, ?_, f2.same y3 (by simp; omega) (by simp; omega), ((g3.trans w3).trans (x3.trans y3)).mono (by simp)⟩
    simpa [encC, wrL, fnv] using y2
  · simp only [cc, decide_false, Bool.false_eq_true, if_false]
    refine ⟨M3, rfl, ?_, f2, ((g3.trans w3).trans x3).mono (by simp)⟩
    simpa [encC, wrL, fnv] using x2

theorem exch_spec {all size : Int} (hf : CFit all size) {s : CS} (hk : s.ok all) (hp : s.ph = 1) {M : AMem} {c mb ma st wi : Nat} {cur : Int} (h : Cells M c (encC all size s)) (hm : IsMem M mb ma [cur] st wi) (hst : st < 1000000000) (hwi : wi < 1000000000)
    (hb : c ≠ mb) (ha : c ≠ ma) :
    ∃ M' wi', LL.call 74 [pt c, pt mb] M = some (.tuple #[], M') ∧ Cells M' c (encC all size (stepS all size cur s).1) ∧ IsMem M' mb ma [(stepS all size cur s).2] (st + 1) wi' ∧ wi' ≤ wi + 1 ∧ Same M M' [c, mb, ma] := by
  rw [L_call74, E74]
  have l4 : (encC all size s)[4]? = some (.int .u64 s.seen) := rfl
  have l1 : (encC all size s)[1]? = some (.int .i64 size) := rfl
  have l0 : (encC all size s)[0]? = some (.int .i64 all) := rfl
  have l7 : (encC all size s)[7]? = some (.int .i64 s.lost) := rfl
  have := hf.a0; have := hf.a1; have := hf.s0; have := hf.s1; have := hk.seen hp; have := hk.lost
  have w1 : IntKind.wrap .i64 s.seen = s.seen := w64 (by omega)
  have w2 : IntKind.wrap .i64 (all - s.seen) = all - s.seen := w64 (by omega)
  have w3 : (if all - s.seen < size then all - s.seen else size) = min size (all - s.seen) := by split <;> omega
  have w4 : IntKind.wrap .i64 (s.seen + min size (all - s.seen)) = s.seen + min size (all - s.seen) := w64 (by omega)
  have w5 : IntKind.wrap .u64 (s.seen + min size (all - s.seen)) = s.seen + min size (all - s.seen) := wu64 (by omega)
  have w6 : IntKind.wrap .i64 ((s.lost : Int) + 1) = ((s.lost + 1 : Nat) : Int) := by rw [w64 (by omega)]; rfl
  obtain ⟨M1, g1, g2, g3⟩ := cas_spec hm (by omega) (by omega) 0 s.seen (s.seen + min size (all - s.seen))
  have hc : casB [cur] 0 s.seen = decide (cur = s.seen) := by simp [casB, inR, getI]
  have k1 := h.same g3 (by simp; omega)
  simp only [Nat.zero_add, h.ld, l4, l1, l0, intOf_int, Option.bind_some, w1, w2, w3, w4, w5, g1, boolOf_bool, hc]
  unfold stepS
  by_cases e : cur = s.seen
  · have hl : casL [cur] 0 s.seen (s.seen + min size (all - s.seen)) = [s.seen + min size (all - s.seen)] := by unfold casL; rw [hc, if_pos (decide_eq_true e)]; rfl
    rw [hl] at g2
    obtain ⟨M2, x1, x2, x3, _⟩ := k1.wr (o := 5) (vs := [.int .i64 s.seen]) (by simp [encC])
    obtain ⟨M3, y1, y2, y3, _⟩ := x2.wr (o := 6) (vs := [.int .i64 (s.seen + min size (all - s.seen))]) (by simp [encC, wrL])
    obtain ⟨M4, z1, z2, z3, _⟩ := y2.wr (o := 2) (vs := [.nilFunc]) (by simp [encC, wrL])
    have f := ((g2.same x3 (by simp; omega) (by simp; omega)).same y3 (by simp; omega) (by simp; omega)).same z3 (by simp; omega) (by simp; omega)
    simp only [e, decide_true, Bool.not_true, Bool.false_eq_true, if_false, x1, y1, z1, Option.bind_some, hp, if_true]
    refine ⟨M4, _, rfl, ?_, f, by split <;> omega, ((g3.trans x3).trans (y3.trans z3)).mono (by simp)⟩
    simpa [encC, wrL, fnv, hp] using z2
  · have hl : casL [cur] 0 s.seen (s.seen + min size (all - s.seen)) = [cur] := by unfold casL; rw [hc, if_neg (by simpa using e)]
    rw [hl] at g2
    obtain ⟨M2, x1, x2, x3, _⟩ := k1.wr (o := 7) (vs := [.int .i64 ((s.lost + 1 : Nat) : Int)]) (by simp [encC])
    obtain ⟨M3, y1, y2, y3, _⟩ := x2.wr (o := 2) (vs := [.func (.func 55) #[] #[]]) (by simp [encC, wrL])
    have f := (g2.same x3 (by simp; omega) (by simp; omega)).same y3 (by simp; omega) (by simp; omega)
    simp only [e, decide_false, Bool.not_false, if_true, k1.ld, l7, intOf_int, Option.bind_some, w6, x1, y1, hp, show ¬ (1 = 0) by omega, if_false]
    refine ⟨M3, _, rfl, ?_, f, by split <;> omega, ((g3.trans x3).trans y3).mono (by simp)⟩
    simpa [encC, wrL, fnv, hp] using y2

theorem bstep_spec {all size : Int} (hf : CFit all size) {s : CS} (hk : s.ok all) {M : AMem} {c mb ma st wi : Nat} {cur : Int} (h : Cells M c (encC all size s)) (hm : IsMem M mb ma [cur] st wi) (hst : st < 1000000000) (hwi : wi < 1000000000)
    (hb : c ≠ mb) (ha : c ≠ ma) (h0 : 0 ≤ cur) :
    ∃ M' st' wi', LL.call 17 [pt c, pt mb] M = some (.bool (decide (s.ph < 2)), M') ∧ Cells M' c (encC all size (stepS all size cur s).1) ∧ IsMem M' mb ma [(stepS all size cur s).2] st' wi' ∧ st' ≤ st + 1 ∧ wi' ≤ wi + 1 ∧ Same M M' [c, mb, ma] := by
  rw [L_call17, E17]
  have l2 : (encC all size s)[2]? = some (fnv s.ph) := rfl
  have hl : ((([cur] : List Int).length : Int) == 0) = false := rfl
  simp only [under_spec h, Option.bind_some, boolOf_bool]
  by_cases c2 : s.ph < 2
  · simp only [c2, decide_true, Bool.not_true, Bool.false_eq_true, if_false, len_spec hm, Option.bind_some, intOf_int, hl, Nat.zero_add, h.ld, l2]
    by_cases c0 : s.ph = 0
    · obtain ⟨M1, g1, g2, g3, g4⟩ := read_spec hf h hm hst hb ha h0
      have hv : anyOf? (some (fnv s.ph)) = some (.func (.func 55) #[] #[]) := by rw [any_fnv, c0]; rfl
      simp only [hv, Option.bind_some, callK_func, List.nil_append, List.append_nil, g1, List.cons_append]
      refine ⟨M1, st + 1, wi, rfl, ?_, ?_, by omega, by omega, g4.mono (by simp)⟩
      · unfold stepS; rw [if_pos c0]; exact g2
      · unfold stepS; rw [if_pos c0]; exact g3
    · have c1 : s.ph = 1 := by omega
      obtain ⟨M1, wi', g1, g2, g3, g4, g5⟩ := exch_spec hf hk c1 h hm hst hwi hb ha
      have hv : anyOf? (some (fnv s.ph)) = some (.func (.func 74) #[] #[]) := by rw [any_fnv, c1]; rfl
      simp only [hv, Option.bind_some, callK_func, List.nil_append, List.append_nil, g1, List.cons_append]
      exact ⟨M1, st + 1, wi', rfl, g2, g3, by omega, g4, g5⟩
  · simp only [c2, decide_false, Bool.not_false, if_true]
    have : stepS all size cur s = (s, cur) := by unfold stepS; rw [if_neg (by omega), if_neg (by omega)]
    rw [this]
    exact ⟨M, st, wi, rfl, h, hm, by omega, by omega, .refl _ _⟩

end Go.Proofs.Ytjmeilpffmhojaa
