/- The document's flush: a step. -/
import Derived.Test.YtpnknolehckfhaaFlushR
import Derived.Test.YtpnknolehckfhaaRef30
set_option linter.unusedVariables false
set_option linter.unusedSimpArgs false
namespace Go.Proofs.Ytpnknolehckfhaa
open Go Go.Ax

/-- A flush of the document's. -/
structure Rf where
  z : Nat
  c : Nat
  s : FS

def encR (x : Rf) : List Value := [.int .i64 x.s.size, .slice (some ⟨x.z, x.s.nx * 2, none⟩) (x.s.adds.length - x.s.nx) x.c, .int .i64 (x.s.adds.length : Int), .bool x.s.rd, .int .u64 x.s.seen, .int .i64 (x.s.lost : Int)]
theorem encR_length (x : Rf) : (encR x).length = 6 := rfl

theorem rf_ld {M : AMem} {rb : Nat} {rs : List Rf} (h : Rd M rb (rs.flatMap encR)) {k : Nat} {x : Rf} (hx : rs[k]? = some x) :
    M.ld rb (k * 6) = some (.int .i64 x.s.size) ∧ M.ld rb (k * 6 + 1) = some (.slice (some ⟨x.z, x.s.nx * 2, none⟩) (x.s.adds.length - x.s.nx) x.c) ∧ M.ld rb (k * 6 + 2) = some (.int .i64 (x.s.adds.length : Int)) ∧ M.ld rb (k * 6 + 3) = some (.bool x.s.rd) ∧ M.ld rb (k * 6 + 4) = some (.int .u64 x.s.seen) ∧ M.ld rb (k * 6 + 5) = some (.int .i64 (x.s.lost : Int)) := by
  have q := fun j hj => flat_get encR_length rs k j x hx hj
  refine ⟨?_, ?_, ?_, ?_, ?_, ?_⟩
  · have := q 0 (by omega); rw [Nat.add_zero] at this; rw [h.ld, this]; rfl
  · rw [h.ld, q 1 (by omega)]; rfl
  · rw [h.ld, q 2 (by omega)]; rfl
  · rw [h.ld, q 3 (by omega)]; rfl
  · rw [h.ld, q 4 (by omega)]; rfl
  · rw [h.ld, q 5 (by omega)]; rfl

theorem rf_step {M : AMem} {rb mr : Nat} {p : Option Addr} {c : Nat} {rs : List Rf} {L : List Int} {st wi k : Nat} {x : Rf} (hx : rs[k]? = some x) (h : Cells M rb (rs.flatMap encR)) (hz : Rd M x.z (x.s.adds.flatMap encA)) (hnx : x.s.nx ≤ x.s.adds.length) (hal : x.s.adds.length ≤ 1000000) (hm : IsRef M mr p c L st wi)
    (hst : st < 1000000000000000000) (hwi : wi < 1000000000000000000) (hlo : x.s.lost < 1000000000000000000) (h1 : rb ≠ mr ∧ rb ∉ blk p) (h2 : x.z ≠ rb ∧ x.z ≠ mr ∧ x.z ∉ blk p) :
    ∃ M' c', LL.call 26 [.pointer (some ⟨rb, k * 6, none⟩), pt mr] M = some (.bool (!fOver L x.s), M') ∧ Cells M' rb ((rs.set k ⟨x.z, c', fS L x.s⟩).flatMap encR) ∧ IsRef M' mr p c (fL L x.s) (st + fT L x.s) (wi + fW L x.s) ∧ Same M M' (rb :: mr :: blk p) := by
  rw [L_call26, E26]
  obtain ⟨d0, d1, d2, d3, d4, d5⟩ := rf_ld h.rd hx
  have hk := (List.getElem?_eq_some_iff.1 hx).1
  have m0 : M.ld mr 0 = some (.slice p L.length c) := hm.hd.ld 0
  simp only [↓bLS d1]
  by_cases e : x.s.adds.length = x.s.nx
  · have ho : fOver L x.s = true := decide_eq_true (.inl e)
    have hw : fWon L x.s = false := by simp [fWon, ho]
    have hfs : fS L x.s = x.s := by unfold fS; rw [if_pos ho]
    have hset : rs.set k ⟨x.z, x.c, fS L x.s⟩ = rs := by
      rw [hfs]
      have : (⟨x.z, x.c, x.s⟩ : Rf) = rs[k] := (List.getElem?_eq_some_iff.1 hx).2.symm
      rw [this]; exact List.set_getElem_self hk
    have b : (Int.ofNat (x.s.adds.length - x.s.nx) == 0) = true := by rw [e, Nat.sub_self]; rfl
    refine ⟨M, x.c, ?_, by rw [hset]; exact h, ?_, .refl _ _⟩
    · rw [b, ifT, ho]; rfl
    · rw [show fT L x.s = 0 by simp [fT, ho], show fL L x.s = L by simp [fL, hw], show fW L x.s = 0 by simp [fW, hw]]; exact hm
  have b : (Int.ofNat (x.s.adds.length - x.s.nx) == 0) = false := by rw [ofN]; exact beq_eq_false_iff_ne.2 (by omega)
  rw [b, ifF]
  simp only [↓bLS m0, ↓bLI d0]
  by_cases e2 : (L.length : Int) = x.s.size
  rotate_left
  · have ho : fOver L x.s = true := decide_eq_true (.inr e2)
    have hw : fWon L x.s = false := by simp [fWon, ho]
    have hfs : fS L x.s = x.s := by unfold fS; rw [if_pos ho]
    have hset : rs.set k ⟨x.z, x.c, fS L x.s⟩ = rs := by
      rw [hfs]
      have : (⟨x.z, x.c, x.s⟩ : Rf) = rs[k] := (List.getElem?_eq_some_iff.1 hx).2.symm
      rw [this]; exact List.set_getElem_self hk
    have b2 : (Int.ofNat L.length != x.s.size) = true := by rw [ofN]; simpa using e2
    refine ⟨M, x.c, ?_, by rw [hset]; exact h, ?_, .refl _ _⟩
    · rw [b2, ifT, ho]; rfl
    · rw [show fT L x.s = 0 by simp [fT, ho], show fL L x.s = L by simp [fL, hw], show fW L x.s = 0 by simp [fW, hw]]; exact hm
  have b2 : (Int.ofNat L.length != x.s.size) = false := by rw [ofN]; simpa using e2
  have ho : fOver L x.s = false := decide_eq_false (by omega)
  have hlt : x.s.nx < x.s.adds.length := by omega
  have hax : x.s.adds[x.s.nx]? = some (fAdd x.s) := by unfold fAdd; rw [List.getD_eq_getElem?_getD, List.getElem?_eq_getElem hlt]; rfl
  obtain ⟨e0, e1⟩ := add_ld hz hax
  rw [b2, ifF, ho]
  have hg : (0 : Int) ≤ 0 ∧ (0 : Int) < Int.ofNat (x.s.adds.length - x.s.nx) := by rw [ofN]; omega
  simp only [↓bLS d1, ↓if_pos hg, ↓bLI e0, ↓bLI e1]
  have s1 := same_app M [AObj.cells [.int .i64 0, .int .u64 0] ⟨false, 0⟩]
  have g1 := cells_new M [.int .i64 0, .int .u64 0] 0
  obtain ⟨M1, w1, w2, w3, w4⟩ := g1.wr (o := 0) (vs := [.int .i64 (fAdd x.s).1, .int .u64 (fAdd x.s).2]) (by simp)
  have w2' : Cells M1 M.length [.int .i64 (fAdd x.s).1, .int .u64 (fAdd x.s).2] := by simpa [wrL] using w2
  have t1 : Same M M1 [] := (s1.trans w3).mono' (by simp)
  have hm1 := hm.same t1 (by simp) (by simp)
  have h1' := h.same t1 (by simp)
  obtain ⟨_, _, _, f3, f4, _⟩ := rf_ld h1'.rd hx
  have v0 : M1.ld M.length 0 = some (.int .i64 (fAdd x.s).1) := w2'.ld 0
  have hrl := h.lt
  have hml := hm.hd.lt
  have hpl := hm.cs.lt
  have hT : fT L x.s = 1 := by simp [fT, ho]
  simp only [↓bX w1]
  cases hr : x.s.rd with
  | false =>
    rw [hr] at f3
    have hw : fWon L x.s = false := by simp [fWon, hr]
    have hfs : fS L x.s = { x.s with rd := decide (inR L (fAdd x.s).1), seen := getI L (fAdd x.s).1 } := by unfold fS; rw [if_neg (by simp [ho]), if_neg (by simp [hr])]
    obtain ⟨M2, k1, k2, k3⟩ := rload_spec hm1 hst (fAdd x.s).1
    have h2' := h1'.same k3 (by simp; exact h1.1)
    obtain ⟨M3, y1, y2, y3, y4⟩ := cell_wr encR_length h2' hx (j := 4) (by omega) (v := .int .u64 (getI L (fAdd x.s).1)) (y := ⟨x.z, x.c, { x.s with seen := getI L (fAdd x.s).1 }⟩) rfl
    obtain ⟨M4, u1, u2, u3, u4⟩ := cell_wr encR_length y2 (List.getElem?_set_self hk) (j := 3) (by omega) (v := .bool (decide (inR L (fAdd x.s).1))) (y := ⟨x.z, x.c, { x.s with rd := decide (inR L (fAdd x.s).1), seen := getI L (fAdd x.s).1 }⟩) rfl
    rw [List.set_set] at u2
    have t24 : Same M2 M4 [rb] := (y3.trans u3).mono (by simp)
    refine ⟨M4, x.c, ?_, by rw [hfs]; exact u2, ?_, ((t1.trans k3).trans t24).mono (by
      intro b hb; simp at hb ⊢; rcases hb with h | h <;> simp [h])⟩
    · rw [bLB f3, ifNF, bLI v0, bX k1, bT2, bG0, bI, bG1, bB, bX y1, bX u1]
      rfl
    · rw [hT, show fL L x.s = L by simp [fL, hw], show fW L x.s = 0 by simp [fW, hw]]
      exact k2.same t24 (by simp; exact Ne.symm h1.1) (fun b hb => by simp; exact fun e => h1.2 (e ▸ hb))
  | true =>
    rw [hr] at f3
    obtain ⟨M2, y1, y2, y3, y4⟩ := cell_wr encR_length h1' hx (j := 3) (by omega) (v := .bool false) (y := ⟨x.z, x.c, { x.s with rd := false }⟩) rfl
    have hx2 : (rs.set k (⟨x.z, x.c, { x.s with rd := false }⟩ : Rf))[k]? = some ⟨x.z, x.c, { x.s with rd := false }⟩ := List.getElem?_set_self hk
    obtain ⟨_, _, _, _, f4', _⟩ := rf_ld y2.rd hx2
    have w2'' := w2'.same y3 (by simp; omega)
    have z0 : M2.ld M.length 0 = some (.int .i64 (fAdd x.s).1) := w2''.ld 0
    have z1 : M2.ld M.length 1 = some (.int .u64 (fAdd x.s).2) := w2''.ld 1
    have hm2 := hm1.same y3 (by simp; exact Ne.symm h1.1) (fun b hb => by simp; exact fun e => h1.2 (e ▸ hb))
    obtain ⟨M3, k1, k2, k3⟩ := rcas_spec hm2 hst hwi (fAdd x.s).1 x.s.seen (IntKind.wrap .u64 (x.s.seen + (fAdd x.s).2))
    have y2' := y2.same k3 (by simp; exact ⟨h1.1, h1.2⟩)
    obtain ⟨q0, q1, q2, q3, q4, q5⟩ := rf_ld y2'.rd hx2
    have t3 : Same M M3 (rb :: mr :: blk p) := ((t1.trans y3).trans k3).mono (by simp)
    rw [bLB f3, ifNT, bX y1, bLI z0, bLI f4', bLI f4', bLI z1, bX k1, bB]
    have hwc : fWon L x.s = casB L (fAdd x.s).1 x.s.seen := by simp [fWon, ho, hr]
    cases hc : casB L (fAdd x.s).1 x.s.seen with
    | true =>
      have hfs : fS L x.s = { x.s with rd := false, nx := x.s.nx + 1 } := by unfold fS; rw [if_neg (by simp [ho]), if_pos hr, if_pos hc]
      obtain ⟨M4, u1, u2, u3, u4⟩ := cell_wr encR_length y2' hx2 (j := 1) (by omega) (v := .slice (some ⟨x.z, x.s.nx * 2 + 2, none⟩) (x.s.adds.length - x.s.nx - 1) (if x.c = 2 then 2 else 0)) (y := ⟨x.z, if x.c = 2 then 2 else 0, { x.s with rd := false, nx := x.s.nx + 1 }⟩) (by
        simp only [encR, List.set_cons_succ, List.set_cons_zero]
        rw [show (x.s.nx + 1) * 2 = x.s.nx * 2 + 2 by omega, show x.s.adds.length - (x.s.nx + 1) = x.s.adds.length - x.s.nx - 1 by omega])
      rw [List.set_set] at u2
      have hg1 : (0 : Int) ≤ 1 ∧ (1 : Int) ≤ Int.ofNat (x.s.adds.length - x.s.nx) ∧ Int.ofNat (x.s.adds.length - x.s.nx) ≤ Int.ofNat (x.s.adds.length - x.s.nx) := by rw [ofN]; omega
      have ht : Int.toNat (Int.ofNat (x.s.adds.length - x.s.nx) - 1) = x.s.adds.length - x.s.nx - 1 := by rw [ofN]; omega
      refine ⟨M4, _, ?_, by rw [hfs]; exact u2, ?_, (t3.trans u3).mono (fun b hb => by
        rcases List.mem_append.1 hb with h | h
        · exact h
        · simp only [List.mem_singleton] at h; simp [h])⟩
      · rw [P26_31_eq, ifT]
        simp only [↓bLS q1, ↓if_pos hg1, Option.map_some, ht, ↓bX u1]
        rw [P26_34_eq]
        rfl
      · rw [hT, show fL L x.s = L.set (fAdd x.s).1.toNat (IntKind.wrap .u64 (x.s.seen + (fAdd x.s).2)) by simp [fL, hwc, hc], show fW L x.s = 1 by simp [fW, hwc, hc]]
        unfold casL at k2
        rw [hc, if_pos rfl, if_pos rfl] at k2
        exact k2.same u3 (by simp; exact Ne.symm h1.1) (fun b hb => by simp; exact fun e => h1.2 (e ▸ hb))
    | false =>
      have hfs : fS L x.s = { x.s with rd := false, lost := x.s.lost + 1 } := by unfold fS; rw [if_neg (by simp [ho]), if_pos hr, if_neg (by simp [hc])]
      obtain ⟨M4, u1, u2, u3, u4⟩ := cell_wr encR_length y2' hx2 (j := 5) (by omega) (v := .int .i64 ((x.s.lost + 1 : Nat) : Int)) (y := ⟨x.z, x.c, { x.s with rd := false, lost := x.s.lost + 1 }⟩) rfl
      rw [List.set_set] at u2
      have hwl : IntKind.wrap .i64 ((x.s.lost : Int) + 1) = ((x.s.lost + 1 : Nat) : Int) := by rw [w64 (by omega)]; rfl
      refine ⟨M4, x.c, ?_, by rw [hfs]; exact u2, ?_, (t3.trans u3).mono (fun b hb => by
        rcases List.mem_append.1 hb with h | h
        · exact h
        · simp only [List.mem_singleton] at h; simp [h])⟩
      · rw [P26_31_eq, ifF]
        simp only [↓bLI q5, hwl, ↓bX u1]
        rw [P26_34_eq]
        rfl
      · rw [hT, show fL L x.s = L by simp [fL, hwc, hc], show fW L x.s = 0 by simp [fW, hwc, hc]]
        unfold casL at k2
        rw [hc, if_neg (by simp), if_neg (by simp)] at k2
        exact k2.same u3 (by simp; exact Ne.symm h1.1) (fun b hb => by simp; exact fun e => h1.2 (e ▸ hb))

end Go.Proofs.Ytpnknolehckfhaa
