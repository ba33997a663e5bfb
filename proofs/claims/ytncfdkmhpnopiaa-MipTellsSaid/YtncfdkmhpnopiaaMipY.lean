/- mip.Levels and mip.Pyramid. -/
import Derived.Test.YtncfdkmhpnopiaaMipP
import Derived.Test.YtncfdkmhpnopiaaEqMip2
import Derived.Test.YtncfdkmhpnopiaaBitsP
set_option linter.unusedVariables false
set_option linter.unusedSimpArgs false
namespace Go.Proofs.Ytncfdkmhpnopiaa
open Go Go.Ax

theorem lev_blen : ∀ (W H : Nat), 1 ≤ W → 1 ≤ H → lev W H = 1 + blen (max W H - 1)
  | W, H, hW, hH => by
    rw [lev_eq]
    by_cases h : 1 < W ∨ 1 < H
    · rw [if_pos h, lev_blen (hf W) (hf H) (by unfold hf; omega) (by unfold hf; omega)]
      have e : max (hf W) (hf H) - 1 = (max W H - 1) / 2 := by unfold hf; omega
      rw [e]
      generalize hm : max W H - 1 = m
      have hm1 : 1 ≤ m := by omega
      by_cases h2 : 2 ≤ m
      · rw [blen_shift (k := 1) (n := m) (by omega), show m / 2 ^ 1 = m / 2 from rfl]; omega
      · obtain rfl : m = 1 := by omega
        rfl
    · rw [if_neg h]
      have : max W H - 1 = 0 := by omega
      rw [this]; rfl
termination_by W H => W + H
decreasing_by unfold hf; omega

theorem levels_spec (w h : Int) : ∃ M', LL.call 15 [.int .i64 w, .int .i64 h] [] = some (.int .i64 (if (1 ≤ w ∧ w ≤ 256) ∧ (1 ≤ h ∧ h ≤ 256) then (lev w.toNat h.toNat : Int) else 0), M') := by
  rw [L_call15, E15]
  by_cases q1 : (if h < w then h else w) < 1
  · refine ⟨[], ?_⟩
    have hR : (if (1 ≤ w ∧ w ≤ 256) ∧ (1 ≤ h ∧ h ≤ 256) then (lev w.toNat h.toNat : Int) else 0) = 0 := if_neg (by split at q1 <;> omega)
    rw [hR]
    simp only [↓ifD q1]
  by_cases q2 : (if h > w then h else w) > 256
  · refine ⟨[], ?_⟩
    have hR : (if (1 ≤ w ∧ w ≤ 256) ∧ (1 ≤ h ∧ h ≤ 256) then (lev w.toNat h.toNat : Int) else 0) = 0 := if_neg (by split at q2 <;> omega)
    rw [hR]
    simp only [↓ifDn q1, ↓ifD q2]
  · have r1 : 1 ≤ w ∧ 1 ≤ h := by split at q1 <;> omega
    have r2 : w ≤ 256 ∧ h ≤ 256 := by split at q2 <;> omega
    refine ⟨[], ?_⟩
    have hR : (if (1 ≤ w ∧ w ≤ 256) ∧ (1 ≤ h ∧ h ≤ 256) then (lev w.toNat h.toNat : Int) else 0) = (lev w.toNat h.toNat : Int) := if_pos (by omega)
    rw [hR]
    obtain ⟨w', rfl⟩ : ∃ n : Nat, w = (n : Int) := ⟨w.toNat, by omega⟩
    obtain ⟨h', rfl⟩ : ∃ n : Nat, h = (n : Int) := ⟨h.toNat, by omega⟩
    have e : IntKind.wrap .u64 (IntKind.wrap .i64 ((if (h' : Int) > (w' : Int) then (h' : Int) else (w' : Int)) - 1)) = ((max w' h' - 1 : Nat) : Int) := by
      rw [w64 (by split <;> omega), wu64 (by split <;> omega)]
      split <;> omega
    have hl := len_spec (x := max w' h' - 1) (by omega)
    have hb : blen (max w' h' - 1) ≤ 8 := blen_le (by omega)
    have e2 : IntKind.wrap .i64 (1 + (blen (max w' h' - 1) : Int)) = ((1 + blen (max w' h' - 1) : Nat) : Int) := by rw [w64 (by omega)]; rfl
    simp only [↓ifDn q1, ↓ifDn q2, e, ↓bX hl, ↓bI, Int.toNat_natCast, lev_blen w' h' (by omega) (by omega), e2]

/-- A picture as a slice's element has it. -/
structure Tp where
  W : Nat
  H : Nat
  p : Option Addr
  c : Nat
  l : List Px

def encT (t : Tp) : List Value := [.int .i64 (t.W : Int), .int .i64 (t.H : Int), .slice t.p t.l.length t.c]
theorem encT_length (t : Tp) : (encT t).length = 3 := rfl
def Tp.pic (t : Tp) : Nat × Nat × List Px := (t.W, t.H, t.l)

structure PyI (l x1 x2 : Nat) (u : Value) (M0 : AMem) (A : List Tp) (M : AMem) : Prop where
  lp : M[l]? = some (.loop (lo33_6 .ready none x2 0 u))
  out : ∃ o c, Cells M x2 [.slice o A.length c] ∧ Slc M 3 o A.length c (A.flatMap encT) ∧ (∀ b ∈ blk o, l < b ∧ M0.length ≤ b) ∧ (∀ t ∈ A, ∀ b ∈ blk t.p, b ∉ blk o)
  px : ∀ t ∈ A, RdL M encP t.p t.l.length t.l ∧ (1 ≤ t.l.length) ∧ (∀ b ∈ blk t.p, b ≠ x1 ∧ b ≠ x2 ∧ b ≠ l)
  same : Same M0 M [x1, x2, l]
  le : l < M0.length

theorem PyI.st {l x1 x2 : Nat} {u : Value} {M0 : AMem} {A : List Tp} {M M' : AMem} (h : PyI l x1 x2 u M0 A M) (s : Same M M' []) : PyI l x1 x2 u M0 A M' := by
  obtain ⟨o, c, h1, h2, h3, h4⟩ := h.out
  exact ⟨s.at h.lp (by simp), ⟨o, c, h1.same s (by simp), h2.same s (by simp), h3, h4⟩, fun t ht => ⟨(h.px t ht).1.same s (by simp), (h.px t ht).2⟩, (h.same.trans s).mono (by simp), h.le⟩

theorem PyI.x1 {l x1 x2 : Nat} {u : Value} {M0 : AMem} {A : List Tp} {M M' : AMem} (h : PyI l x1 x2 u M0 A M) (s : Same M M' [x1]) (d : x1 ≠ x2 ∧ x1 ≠ l ∧ x1 < M0.length) (hx : x1 < l) : PyI l x1 x2 u M0 A M' := by
  obtain ⟨o, c, h1, h2, h3, h4⟩ := h.out
  exact ⟨s.at h.lp (by simp; exact Ne.symm d.2.1), ⟨o, c, h1.same s (by simp; exact Ne.symm d.1), h2.same s (fun b hb => by have := h3 b hb; simp; omega), h3, h4⟩,
    fun t ht => ⟨(h.px t ht).1.same s (fun b hb => by simp; exact ((h.px t ht).2.2 b hb).1), (h.px t ht).2⟩, (h.same.trans s).mono (by simp), h.le⟩

theorem py_step {l x1 x2 : Nat} {u : Value} {M0 : AMem} {A : List Tp} {M : AMem} (hI : PyI l x1 x2 u M0 A M) (d : x1 < l ∧ x2 < l ∧ x1 ≠ x2) (hA : A.length ≤ 1000) (t : Tp) (ht : RdL M encP t.p t.l.length t.l) (h1 : 1 ≤ t.l.length) (hd : ∀ b ∈ blk t.p, b ≠ x1 ∧ b ≠ x2 ∧ b ≠ l) (ho : ∀ b ∈ blk t.p, ∀ o c, Cells M x2 [.slice o A.length c] → b ∉ blk o) :
    ∃ M', LL.round l [.agg #[.int .i64 (t.W : Int), .int .i64 (t.H : Int), .slice t.p t.l.length t.c]] M = some (.bool true, M') ∧ PyI l x1 x2 u M0 (A ++ [t]) M' ∧ (∀ {b : Nat} {cs : List Value}, Cells M b cs → b ≠ x2 → b ≠ l → (∀ o c, Cells M x2 [.slice o A.length c] → b ∉ blk o) → Cells M' b cs) ∧
      RdL M' encP t.p t.l.length t.l := by
  obtain ⟨M1, w1, w2, w3, w4⟩ := wr_new M [.int .i64 0, .int .i64 0, .slice none 0 0] (encT t) 0 rfl
  unfold encT at w1 w2
  have hi1 := hI.st w3
  have hlM := lt_of_get hI.lp
  obtain ⟨o0, c0, oc0, _, _, _⟩ := hI.out
  rw [R33_6 LL L_round l x2 0 u _ _ _ _ _ M none hI.lp M1 w1 hi1.lp, P33_6_eq]
  have s2 := same_set M1 l (.loop (lo33_6 .busy none x2 0 u))
  have lp2 : (M1.set l (.loop (lo33_6 .busy none x2 0 u)))[l]? = some (.loop (lo33_6 .busy none x2 0 u)) := get_set_self hi1.lp
  have l2 : (M1.set l (.loop (lo33_6 .busy none x2 0 u))).length = M1.length := by simp
  generalize hM2 : M1.set l (.loop (lo33_6 .busy none x2 0 u)) = M2 at s2 lp2 l2
  obtain ⟨o, c, o1, o2, o3, o4⟩ := hi1.out
  obtain ⟨o', c', p1, p2, p3, p4⟩ := hI.out
  have hoo : o = o' ∧ c = c' := by
    have e1 := (p1.same w3 (by simp)).ld 0
    have e2 := o1.ld 0
    rw [e2] at e1
    simp at e1
    exact e1
  obtain ⟨rfl, rfl⟩ := hoo
  have z2 := w2.same s2 (by simp; omega)
  obtain ⟨z0, z1, zz⟩ := picV_ld z2.rd
  have o1' := o1.same s2 (by simp; omega)
  have o2' := o2.same s2 (fun b hb => by have := o3 b hb; simp; omega)
  obtain ⟨M3, k1, k2, k3⟩ := grn_row (bytes := 40) (new := encT t) (m := 1) (v := 0) o2' rfl (by omega) (by omega)
  have hrow := rowOf_new M2 3 1 (encT t) 0 3 rfl
  unfold encT at k1 hrow
  have o1'' := o1'.same k3.same (fun hb => by have := o3 _ hb; omega)
  obtain ⟨M4, y1, y2, y3, y4⟩ := o1''.wr (o := 0) (vs := [.slice (some ⟨List.length M2 + 1, 0, none⟩) (A.length + 1) 3]) (by simp)
  simp only [wrL, List.set_cons_zero] at y2
  have lp4 : M4[l]? = some (.loop (lo33_6 .busy none x2 0 u)) := y3.at (k3.same.at lp2 (fun hb => by have := o3 _ hb; omega)) (by simp; omega)
  have s5 := same_set M4 l (.loop (lo33_6 .ready none x2 0 u))
  have hall : Same M1 (M4.set l (.loop (lo33_6 .ready none x2 0 u))) (x2 :: l :: blk o) := (((s2.trans k3.same).trans y3).trans s5).mono (by
    intro b hb; simp at hb ⊢; rcases hb with h | h | h | h <;> simp [h])
  have hallM : Same M (M4.set l (.loop (lo33_6 .ready none x2 0 u))) (x2 :: l :: blk o) := (w3.trans hall).mono (by simp)
  have hM0 := hI.same.le
  have hle := hI.le
  have htd : ∀ b ∈ blk t.p, b ∉ blk o := fun b hb => ho b hb o c p1
  have hkeep : ∀ (t' : Tp), RdL M encP t'.p t'.l.length t'.l → (∀ b ∈ blk t'.p, b ≠ x1 ∧ b ≠ x2 ∧ b ≠ l) → (∀ b ∈ blk t'.p, b ∉ blk o) → RdL (M4.set l (.loop (lo33_6 .ready none x2 0 u))) encP t'.p t'.l.length t'.l := fun t' h1 h2 h3 =>
    h1.same hallM (fun b hb => by
      simp only [List.mem_cons, not_or]
      exact ⟨(h2 b hb).2.1, (h2 b hb).2.2, h3 b hb⟩)
  refine ⟨M4.set l (.loop (lo33_6 .ready none x2 0 u)), ?_, ⟨get_set_self lp4, ⟨some ⟨List.length M2 + 1, 0, none⟩, 3, ?_, ?_, ?_, ?_⟩, ?_, ?_, hle⟩, ?_, hkeep t ht hd htd⟩
  · have oo : AMem.ld M2 x2 0 = some (.slice o A.length c) := o1'.ld 0
    simp only [↓bLS oo, ↓bLI z0, ↓bLI z1, ↓bLS zz, ↓bX hrow, k1, ↓bX y1]
    exact roundK_normal lp4
  · rw [List.length_append, List.length_singleton]
    exact y2.same s5 (by simp; omega)
  · rw [List.length_append, List.length_singleton, List.flatMap_append]
    have := (k2.same y3 (by have := o1'.lt; simp; omega)).same s5 (by simp; omega)
    simpa using this
  · simp; omega
  · intro t' ht' b hb
    rcases List.mem_append.1 ht' with ht' | ht'
    · have := (hI.px t' ht').1.lt (by have := (hI.px t' ht').2.1; omega) b hb
      simp; omega
    · obtain rfl := List.mem_singleton.1 ht'
      have := ht.lt (by omega) b hb
      simp; omega
  · intro t' ht'
    rcases List.mem_append.1 ht' with ht' | ht'
    · obtain ⟨q1, q2, q3⟩ := hI.px t' ht'
      exact ⟨hkeep t' q1 q3 (fun b hb => p4 t' ht' b hb), q2, q3⟩
    · obtain rfl := List.mem_singleton.1 ht'
      exact ⟨hkeep t' ht hd htd, h1, hd⟩
  · refine (hI.same.trans hallM).mono' fun b hb hlt => ?_
    simp only [List.mem_append, List.mem_cons, List.not_mem_nil, or_false] at hb ⊢
    rcases hb with (hb | hb | hb) | hb | hb | hb
    · exact .inl hb
    · exact .inr (.inl hb)
    · exact .inr (.inr hb)
    · exact .inr (.inl hb)
    · exact .inr (.inr hb)
    · have := o3 b hb; omega
  · intro b cs hb h2 hl hbo
    exact hb.same hallM (by
      simp only [List.mem_cons, not_or]
      exact ⟨h2, hl, hbo o c p1⟩)

theorem py_loop {l x1 x2 : Nat} {u : Value} {M0 : AMem} (d : x1 < l ∧ x2 < l ∧ x1 ≠ x2) : ∀ (n W H : Nat), W + H ≤ n → (1 ≤ W ∧ W ≤ 256) → (1 ≤ H ∧ H ≤ 256) → ∀ (p : Option Addr) (c : Nat) (lx : List Px) (A : List Tp) (M : AMem), lx.length = W * H → (∀ x ∈ lx, x.fit) → A.length + W + H ≤ 1000 → PyI l x1 x2 u M0 A M →
    Cells M x1 [.int .i64 (W : Int), .int .i64 (H : Int), .slice p lx.length c] → RdL M encP p lx.length lx → (∀ b ∈ blk p, b ≠ x1 ∧ b ≠ x2 ∧ b ≠ l) → (∀ b ∈ blk p, ∀ o c, Cells M x2 [.slice o A.length c] → b ∉ blk o) →
    ∃ M' A', P34_1 LL l x1 M = some (.tuple #[], M') ∧ PyI l x1 x2 u M0 (A ++ A') M' ∧ A'.map Tp.pic = pyr W H lx := by
  intro n
  induction n with
  | zero => intro W H hn hW; omega
  | succ n ih =>
    intro W H hn hW hH p c lx A M hl hfit hA hI h1 hp hd ho
    have hlx : 1 ≤ lx.length := by rw [hl]; exact Nat.mul_pos hW.1 hH.1
    obtain ⟨a0, a1, a2⟩ := picV_ld h1.rd
    obtain ⟨M1, e1, I1, keep, hp1⟩ := py_step hI d (by omega) ⟨W, H, p, c, lx⟩ hp hlx hd ho
    have h11 := keep h1 d.2.2 (by omega) (fun o c' hc hb => by
      obtain ⟨o', c'', q1, q2, q3, q4⟩ := hI.out
      have e := hc.ld 0
      rw [q1.ld 0] at e
      simp at e
      obtain ⟨rfl, rfl⟩ := e
      have := q3 _ hb; omega)
    obtain ⟨b0, b1, b2⟩ := picV_ld h11.rd
    rw [P34_1_eq LL L_loop, pyr_eq]
    simp only [↓bLI a0, ↓bLI a1, ↓bLS a2, ↓bX e1, ↓bB, ↓ifT, ↓bLS b2]
    by_cases hm : 1 < W ∨ 1 < H
    · have hgt : Int.ofNat lx.length > 1 := by
        rw [ofN, hl]
        rcases hm with hm | hm
        · have := Nat.mul_le_mul (show 2 ≤ W by omega) hH.1; omega
        · have := Nat.mul_le_mul hW.1 (show 2 ≤ H by omega); omega
      obtain ⟨M2, a, e2, z2, s2, hz⟩ := halved_spec (cp := c) hW hH hl hfit hp1
      unfold picV at e2
      have I2 := I1.st s2
      obtain ⟨M3, w1, w2, w3, w4⟩ := (h11.same s2 (by simp)).wr (o := 0) (vs := [.int .i64 (hf W : Int), .int .i64 (hf H : Int), .slice (some ⟨a, 0, none⟩) (hf W * hf H) 3]) (by simp)
      have hhl : (halfL W H lx).length = hf W * hf H := by simp [halfL]
      have w2' : Cells M3 x1 [.int .i64 (hf W : Int), .int .i64 (hf H : Int), .slice (some ⟨a, 0, none⟩) (halfL W H lx).length 3] := by rw [hhl]; simpa [wrL] using w2
      have hx1l := d.1
      have hle := I1.le
      have hle2 := I1.same.le
      have I3 := I2.x1 w3 ⟨d.2.2, by omega, by omega⟩ hx1l
      have hne : a ≠ x1 := by have := h11.lt; omega
      have z3 := z2.same w3 (by simp; exact hne)
      have hlp := lt_of_get I1.lp
      obtain ⟨M', A', r1, r2, r3⟩ := ih (hf W) (hf H) (by unfold hf; omega) (by unfold hf; omega) (by unfold hf; omega) (some ⟨a, 0, none⟩) 3 (halfL W H lx) (A ++ [⟨W, H, p, c, lx⟩]) M3 hhl (halfL_fit hfit) (by simp only [List.length_append, List.length_singleton]; unfold hf; omega) I3 w2' (rdl_of z3) (fun b hb => by simp at hb; subst hb; omega) (fun b hb o' c' hc hbo => by
        simp at hb; subst hb
        obtain ⟨o'', c'', q1, q2, q3, q4⟩ := I1.out
        have e := hc.ld 0
        rw [((q1.same s2 (by simp)).same w3 (by simp; exact Ne.symm d.2.2)).ld 0] at e
        simp at e
        obtain ⟨rfl, rfl⟩ := e
        have := q2.lt _ hbo; omega)
      refine ⟨M', ⟨W, H, p, c, lx⟩ :: A', ?_, by simpa using r2, ?_⟩
      · simp only [↓ifD hgt, ↓bLI b0, ↓bLI b1, ↓bX e2, ↓bA3, ↓bI0, ↓bI1, ↓bS2, ↓bX w1]
        exact r1
      · rw [if_pos hm, List.map_cons, r3]; rfl
    · have hgt : ¬ Int.ofNat lx.length > 1 := by
        obtain rfl : W = 1 := by omega
        obtain rfl : H = 1 := by omega
        rw [ofN, hl]; omega
      refine ⟨M1, [⟨W, H, p, c, lx⟩], ?_, I1, ?_⟩
      · simp only [↓ifDn hgt]
      · rw [if_neg hm]; rfl

/-- A picture that may be, and its halves. -/
theorem pyramid_spec {W H : Int} {p : Option Addr} {cp : Nat} {l : List Px} (hl : l.length ≤ 9223372036854775807) {M : AMem} (hp : RdL M encP p l.length l) :
    (PFit W H l → ∃ M' o oc A, LL.call 14 [picV W H p l.length cp] M = some (.slice o (List.length A) oc, M') ∧ Slc M' 3 o A.length oc (A.flatMap encT) ∧ (∀ t ∈ A, RdL M' encP t.p t.l.length t.l) ∧ A.map Tp.pic = pyr W.toNat H.toNat l ∧ Same M M' []) ∧
    (¬ PFit W H l → ∃ M', LL.call 14 [picV W H p l.length cp] M = some (.slice none 0 0, M') ∧ Same M M' []) := by
  rw [L_call14]
  unfold picV
  rw [E14]
  have g0 := cells_new M [.int .i64 W, .int .i64 H, .slice p l.length cp] 0
  have s0 := same_app M [AObj.cells [.int .i64 W, .int .i64 H, .slice p l.length cp] ⟨false, 0⟩]
  have n0 : (M ++ [AObj.cells [.int .i64 W, .int .i64 H, .slice p l.length cp] ⟨false, 0⟩]).length = M.length + 1 := by simp
  generalize hM0 : M ++ [AObj.cells [.int .i64 W, .int .i64 H, .slice p l.length cp] ⟨false, 0⟩] = M0 at g0 s0 n0
  have a : IsPic M0 M.length W H p cp l := ⟨g0.rd, hp.same s0 (by simp)⟩
  obtain ⟨a0, a1, a2⟩ := picV_ld a.hd
  obtain ⟨M2, e2, s2⟩ := right_spec (W := W) (H := H) (c := cp) hl a.px
  unfold picV at e2
  have hs2 : Same M M2 [] := (s0.trans s2).mono (by simp)
  simp only [↓bLI a0, ↓bLI a1, ↓bLS a2, ↓bX e2, ↓bB]
  refine ⟨fun hft => ?_, fun hft => ?_⟩
  · have hd : decide (PFit W H l) = true := decide_eq_true hft
    obtain ⟨b0, b1, b2⟩ := picV_ld (a.st s2).hd
    simp only [hd, ↓ifNT, ↓bLI b0, ↓bLI b1, ↓bLS b2]
    rw [L_call26, E26]
    have g3 := cells_new M2 [.int .i64 W, .int .i64 H, .slice p l.length cp] 0
    have s3 := same_app M2 [AObj.cells [.int .i64 W, .int .i64 H, .slice p l.length cp] ⟨false, 0⟩]
    have n3 : (M2 ++ [AObj.cells [.int .i64 W, .int .i64 H, .slice p l.length cp] ⟨false, 0⟩]).length = M2.length + 1 := by simp
    generalize hM3 : M2 ++ [AObj.cells [.int .i64 W, .int .i64 H, .slice p l.length cp] ⟨false, 0⟩] = M3 at g3 s3 n3
    simp only [Option.bind_some, anyOf?, leafV, if_true]
    rw [L_call25, E25, L_call33, E33]
    have g4 := cells_new M3 [.slice none 0 0] 0
    have s4 := same_app M3 [AObj.cells [.slice none 0 0] ⟨false, 0⟩]
    have n4 : (M3 ++ [AObj.cells [.slice none 0 0] ⟨false, 0⟩]).length = M3.length + 1 := by simp
    generalize hM4 : M3 ++ [AObj.cells [.slice none 0 0] ⟨false, 0⟩] = M4 at g4 s4 n4
    simp only [funK_func, List.nil_append, List.cons_append]
    generalize hu : (Value.func (.func 34) #[] #[.pointer (some ⟨M2.length, 0, none⟩)]) = u
    have s5 := same_app M4 [AObj.loop (lo33_6 .ready none M3.length 0 u)]
    have n5 : (M4 ++ [AObj.loop (lo33_6 .ready none M3.length 0 u)]).length = M4.length + 1 := by simp
    have lp5 : (M4 ++ [AObj.loop (lo33_6 .ready none M3.length 0 u)])[M4.length]? = some (.loop (lo33_6 .ready none M3.length 0 u)) := get_new _ _
    generalize hM5 : M4 ++ [AObj.loop (lo33_6 .ready none M3.length 0 u)] = M5 at s5 n5 lp5
    have t5 : Same M M5 [] := (((hs2.trans s3).trans s4).trans s5).mono (by simp)
    obtain ⟨f1, f2, f3, f4⟩ := hft
    obtain ⟨W', rfl⟩ : ∃ n : Nat, W = (n : Int) := ⟨W.toNat, by omega⟩
    obtain ⟨H', rfl⟩ : ∃ n : Nat, H = (n : Int) := ⟨H.toNat, by omega⟩
    have hlen : l.length = W' * H' := by rw [← Int.natCast_mul] at f4; omega
    have hpos : 1 ≤ W' * H' := Nat.mul_pos (by omega) (by omega)
    have hpl := hp.lt (by omega)
    have l2 := hs2.le
    have hI : PyI M4.length M2.length M3.length u M5 [] M5 := ⟨lp5, ⟨none, 0, by simpa using g4.same s5 (by simp), by simpa using Slc.nil M5 3 0, by simp, by simp⟩, by simp, .refl _ _, by omega⟩
    obtain ⟨M6, A', r1, r2, r3⟩ := py_loop (by omega) (W' + H') W' H' (Nat.le_refl _) (by omega) (by omega) p cp l [] M5 hlen f1 (by simp; omega) hI (((g3.same s4 (by simp)).same s5 (by simp))) (hp.same t5 (by simp)) (fun b hb => by have := hpl b hb; omega) (fun b hb o c hc hbo => by
      have e := hc.ld 0
      rw [(g4.same s5 (by simp)).ld 0] at e
      simp at e
      rw [← e.1] at hbo; simp at hbo)
    rw [List.nil_append] at r2
    obtain ⟨o, oc, o1, o2, o3, o4⟩ := r2.out
    have s7 := same_set M6 M4.length .dead
    have o1' := o1.same s7 (by simp; omega)
    have v0 : AMem.ld (M6.set M4.length .dead) M3.length 0 = some (.slice o A'.length oc) := o1'.ld 0
    refine ⟨M6.set M4.length .dead, o, oc, A', ?_, o2.same s7 (fun b hb => by have := o3 b hb; simp; omega), fun t ht => (r2.px t ht).1.same s7 (fun b hb => by simp; exact ((r2.px t ht).2.2 b hb).2.2), by simpa using r3, ?_⟩
    · rw [L_call34, E34, r1]
      simp only [Option.bind_some]
      rw [rangeK_normal r2.lp (by simp [lo33_6]) rfl, P33_10_eq]
      simp only [↓bLS v0, Option.bind_some, sliceOf_slice]
    · refine ((t5.trans r2.same).trans s7).mono' fun b hb hlt => ?_
      simp at hb
      omega
  · have hd : decide (PFit W H l) = false := decide_eq_false hft
    exact ⟨M2, by simp only [hd, ↓ifNF], hs2⟩

end Go.Proofs.Ytncfdkmhpnopiaa
