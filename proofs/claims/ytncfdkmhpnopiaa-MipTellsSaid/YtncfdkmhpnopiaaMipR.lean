/- The document's halves, doubles and cuts (skylightref51). -/
import Derived.Test.YtncfdkmhpnopiaaMipD
import Derived.Test.YtncfdkmhpnopiaaMipC
import Derived.Test.YtncfdkmhpnopiaaMipY
import Derived.Test.YtncfdkmhpnopiaaEqRef51
set_option linter.unusedVariables false
set_option linter.unusedSimpArgs false
namespace Go.Proofs.Ytncfdkmhpnopiaa
open Go Go.Ax

theorem chk_all {pairs : List (Nat × Nat)} {lds : List (Nat × Nat)} {efs : List (Nat × AMem × AMem)} (h : ∀ x ∈ lds, ∀ e ∈ efs, AMem.ver e.2.1 x.2 = AMem.ver e.2.2 x.2) : chkOk pairs lds efs = true := by
  unfold chkOk
  rw [List.all_eq_true]
  intro p hp
  split
  · rename_i a mm h1 h2
    exact decide_eq_true (h _ (lookup_mem h1) _ (lookup_mem h2))
  · rfl

theorem rhf_spec {n : Nat} (h : n ≤ 256) : LL.call 28 [.int .i64 (n : Int)] [] = some (.int .i64 (hf n : Int), []) := by
  rw [L_call28, E28]
  rw [w64 (n := (n : Int) + 1) (by omega), show (n : Int) + 1 = ((n + 1 : Nat) : Int) from rfl, show Int.tdiv ((n + 1 : Nat) : Int) 2 = (((n + 1) / 2 : Nat) : Int) from (Int.ofNat_tdiv (n + 1) 2).symm, w64 (by omega)]
  rfl

theorem rdiv_spec {x y : Int} (hx : 0 ≤ x ∧ x ≤ 9223372036854775807) (hy : 1 ≤ y) : LL.call 30 [.int .i64 x, .int .i64 y] [] = some (.int .i64 (x / y), []) := by
  rw [L_call30, E30]
  have h1 : ¬ y < 1 := by omega
  have h2 : ¬ y = 0 := by omega
  have h3 : ¬ x < 0 := by omega
  have e : Int.tdiv x y = x / y := Int.tdiv_eq_ediv_of_nonneg hx.1
  have l0 : 0 ≤ x / y := Int.ediv_nonneg hx.1 (by omega)
  have l1 : x / y ≤ x := Int.ediv_le_self _ hx.1
  simp only [h1, h2, h3, decide_false, Bool.false_eq_true, if_false, e, w64 (show -9223372036854775808 ≤ x / y ∧ x / y ≤ 9223372036854775807 by omega), P30_18_eq]

/-- A pixel, the nearest one. -/
theorem at_spec {W H x y : Nat} (bW : 1 ≤ W ∧ W ≤ 256) (bH : 1 ≤ H ∧ H ≤ 256) (bx : x ≤ 1000) (bY : y ≤ 1000) {p : Option Addr} {cp : Nat} {l : List Px} (hl : l.length = W * H) {M : AMem} (hp : RdL M encP p l.length l) :
    ∃ M', LL.call 29 [picV (W : Int) (H : Int) p l.length cp, .int .i64 (x : Int), .int .i64 (y : Int)] M = some (.agg #[.int .i64 (atP W H l x y).r, .int .i64 (atP W H l x y).g, .int .i64 (atP W H l x y).b], M') ∧ Same M M' [] := by
  rw [L_call29]
  unfold picV
  rw [E29]
  have hl2 : l.length ≤ 65536 := by rw [hl]; exact (Nat.mul_le_mul bW.2 bH.2 : W * H ≤ 256 * 256)
  have g0 := cells_new M [.int .i64 (W : Int), .int .i64 (H : Int), .slice p l.length cp] 0
  have s0 := same_app M [AObj.cells [.int .i64 (W : Int), .int .i64 (H : Int), .slice p l.length cp] ⟨false, 0⟩]
  have n0 : (M ++ [AObj.cells [.int .i64 (W : Int), .int .i64 (H : Int), .slice p l.length cp] ⟨false, 0⟩]).length = M.length + 1 := by simp
  generalize hM0 : M ++ [AObj.cells [.int .i64 (W : Int), .int .i64 (H : Int), .slice p l.length cp] ⟨false, 0⟩] = M0 at g0 s0 n0
  have s1 := same_app M0 [AObj.cells [.int .i64 0, .int .i64 0, .int .i64 0] ⟨false, 0⟩]
  obtain ⟨a0, a1, a2⟩ := picV_ld (g0.same s1 (by simp)).rd
  let Y := min y (H - 1)
  let X := min x (W - 1)
  have hY : Y ≤ H - 1 := Nat.min_le_right _ _
  have hX : X ≤ W - 1 := Nat.min_le_right _ _
  have hj : Y * W + X < l.length := by
    have := Nat.mul_le_mul_right W (show Y + 1 ≤ H by omega)
    rw [hl, Nat.mul_comm W H]; rw [Nat.add_mul] at this; omega
  have eY : (if IntKind.wrap .i64 ((H : Int) - 1) < (y : Int) then IntKind.wrap .i64 ((H : Int) - 1) else (y : Int)) = (Y : Int) := by
    rw [w64 (by omega)]
    show _ = ((min y (H - 1) : Nat) : Int)
    split <;> omega
  have eX : (if IntKind.wrap .i64 ((W : Int) - 1) < (x : Int) then IntKind.wrap .i64 ((W : Int) - 1) else (x : Int)) = (X : Int) := by
    rw [w64 (by omega)]
    show _ = ((min x (W - 1) : Nat) : Int)
    split <;> omega
  have m1 : IntKind.wrap .i64 ((Y : Int) * (W : Int)) = ((Y * W : Nat) : Int) := by
    rw [← Int.natCast_mul]
    generalize Y * W = q at hj
    exact w64 (by omega)
  have m2 : IntKind.wrap .i64 (((Y * W : Nat) : Int) + (X : Int)) = ((Y * W + X : Nat) : Int) := by
    generalize Y * W = q at hj
    rw [w64 (by omega)]; rfl
  obtain ⟨b, rfl, hb⟩ := hp.2 (by omega)
  obtain ⟨e0, e1, e2⟩ := px_ld ((hb.same s0 (by simp)).same s1 (by simp)) (gP_get hj)
  have hg : (0 : Int) ≤ ((Y * W + X : Nat) : Int) ∧ ((Y * W + X : Nat) : Int) < Int.ofNat l.length := by
    rw [ofN]
    generalize Y * W + X = q at hj
    omega
  obtain ⟨M2, w1, w2, w3, w4⟩ := wr_new M0 [.int .i64 0, .int .i64 0, .int .i64 0] (encP (gP l (Y * W + X))) 0 rfl
  unfold encP at w1
  have c0 : AMem.ld M2 M0.length 0 = some (.int .i64 (gP l (Y * W + X)).r) := w2.ld 0
  have c1 : AMem.ld M2 M0.length 1 = some (.int .i64 (gP l (Y * W + X)).g) := w2.ld 1
  have c2 : AMem.ld M2 M0.length 2 = some (.int .i64 (gP l (Y * W + X)).b) := w2.ld 2
  refine ⟨M2, ?_, (s0.trans w3).mono (by simp)⟩
  simp only [↓bLS a2, ↓bLI a1, ↓bLI a0, eY, eX, m1, m2, ↓if_pos hg, Int.toNat_natCast, Nat.zero_add, ↓bLI e0, ↓bLI e1, ↓bLI e2, ↓bX w1, ↓bLI c0, ↓bLI c1, ↓bLI c2]
  rfl

theorem bA3' {β : Type} (a b c : Int) (f : List Value → Option β) : Option.bind (aggOf? 3 (.agg #[.int .i64 a, .int .i64 b, .int .i64 c])) f = f [.int .i64 a, .int .i64 b, .int .i64 c] := rfl

/-! ### halves -/

theorem rh_chan {x1 x2 x3 : Nat} {y x : Int} {b1 b2 b3 b4 z c : Nat} {A B C D o : Px} {M0 M : AMem} (hc : c < 3) (h1 : Rd M0 b1 (encP A)) (h2 : Rd M0 b2 (encP B)) (h3 : Rd M0 b3 (encP C)) (h4 : Rd M0 b4 (encP D)) (fA : A.fit) (fB : B.fit) (fC : C.fit) (fD : D.fit) (hz : M0.length ≤ z) (hs : Same M0 M []) (ho : Cells M z (encP o)) :
    ∃ M', P19_45 LL x1 x2 x3 y x b1 b2 b3 b4 z (c : Int) M = P19_45 LL x1 x2 x3 y x b1 b2 b3 b4 z ((c + 1 : Nat) : Int) M' ∧ Cells M' z (encP (o.upd c ((chn A c + chn B c + chn C c + chn D c) / 4))) ∧ Same M0 M' [] := by
  have ec : ∀ X : Px, (encP X)[c]? = some (.int .i64 (chn X c)) := fun X => by
    match c, hc with
    | 0, _ => rfl
    | 1, _ => rfl
    | 2, _ => rfl
  have e1 : M.ld b1 c = some (.int .i64 (chn A c)) := by rw [(h1.same hs (by simp)).ld]; exact ec A
  have e2 : M.ld b2 c = some (.int .i64 (chn B c)) := by rw [(h2.same hs (by simp)).ld]; exact ec B
  have e3 : M.ld b3 c = some (.int .i64 (chn C c)) := by rw [(h3.same hs (by simp)).ld]; exact ec C
  have e4 : M.ld b4 c = some (.int .i64 (chn D c)) := by rw [(h4.same hs (by simp)).ld]; exact ec D
  have f1 := chn_fit fA c
  have f2 := chn_fit fB c
  have f3 := chn_fit fC c
  have f4 := chn_fit fD c
  generalize chn A c = u1 at e1 f1 ⊢
  generalize chn B c = u2 at e2 f2 ⊢
  generalize chn C c = u3 at e3 f3 ⊢
  generalize chn D c = u4 at e4 f4 ⊢
  have k1 : IntKind.wrap .i64 (u1 + u2) = u1 + u2 := w64 (by omega)
  have k2 : IntKind.wrap .i64 (u1 + u2 + u3) = u1 + u2 + u3 := w64 (by omega)
  have k3 : IntKind.wrap .i64 (u1 + u2 + u3 + u4) = u1 + u2 + u3 + u4 := w64 (by omega)
  have hd := rdiv_spec (x := u1 + u2 + u3 + u4) (y := 4) (by omega) (by omega)
  obtain ⟨M1, w1, w2, w3, w4⟩ := ho.wr (o := c) (vs := [.int .i64 ((u1 + u2 + u3 + u4) / 4)]) (by simp [encP]; omega)
  have w2' : Cells M1 z (encP (o.upd c ((u1 + u2 + u3 + u4) / 4))) := by
    rw [encP_upd o hc]
    simpa [wrL] using w2
  refine ⟨M1, ?_, w2', (hs.trans w3).mono' (by simp; omega)⟩
  have hlt : (c : Int) < 3 := by omega
  have h0 : (0 : Int) ≤ (c : Int) ∧ (c : Int) < 3 := by omega
  have wc : IntKind.wrap .i64 ((c : Int) + 1) = ((c + 1 : Nat) : Int) := by rw [w64 (by omega)]; rfl
  rw [P19_45_eq LL L_loop, ifD hlt]
  simp only [↓if_pos h0, Int.toNat_natCast, Nat.mul_one, Nat.zero_add, ↓bLI e1, ↓bLI e2, ↓bLI e3, ↓bLI e4, k1, k2, k3, ↓bX hd, ↓bI, ↓bX w1, P19_55_eq, wc]

theorem tab_take {w h y x : Nat} {f : Nat → Nat → Px} (hx : x < w) (hy : y < h) : (tab w h f).take (y * w + x + 1) = (tab w h f).take (y * w + x) ++ [f x y] := by
  have hi : y * w + x < w * h := by
    have := Nat.mul_le_mul_right w (show y + 1 ≤ h by omega)
    rw [Nat.mul_comm w h]; rw [Nat.add_mul] at this; omega
  refine take_snoc ?_
  rw [tab_get hi]
  have d1 : (y * w + x) / w = y := by rw [Nat.mul_comm, Nat.mul_add_div (by omega), Nat.div_eq_of_lt hx, Nat.add_zero]
  have d2 : (y * w + x) % w = x := by rw [Nat.mul_comm, Nat.mul_add_mod, Nat.mod_eq_of_lt hx]
  rw [d1, d2]

theorem rh_row {W H : Nat} (bW : 1 ≤ W ∧ W ≤ 256) (bH : 1 ≤ H ∧ H ≤ 256) {p : Option Addr} {cp : Nat} {l : List Px} (hl : l.length = W * H) (hfit : ∀ x ∈ l, x.fit) {x1 x2 x3 : Nat} {B : AMem} (h1 : IsPic B x1 (W : Int) (H : Int) p cp l) {y : Nat} (hy : y < hf H) :
    ∀ (d x : Nat) (M : AMem), x + d = hf W → Out B M x3 (hf W : Int) (hf H : Int) ((halfL W H l).take (y * hf W + x)) →
      ∃ M', P19_28 LL x1 x2 x3 (y : Int) (x : Int) M = P19_58 LL x1 x2 x3 (y : Int) M' ∧ Out B M' x3 (hf W : Int) (hf H : Int) ((halfL W H l).take ((y + 1) * hf W)) := by
  have bw : 1 ≤ hf W ∧ hf W ≤ 128 := by unfold hf; omega
  have bh : 1 ≤ hf H ∧ hf H ≤ 128 := by unfold hf; omega
  have hlen : (halfL W H l).length = hf W * hf H := by simp [halfL]
  have hwh : hf W * hf H ≤ 128 * 128 := Nat.mul_le_mul bw.2 bh.2
  intro d
  induction d with
  | zero =>
    intro x M hx ho
    have hxw : x = hf W := by omega
    refine ⟨M, ?_, by rw [hxw] at ho; rw [show (y + 1) * hf W = y * hf W + hf W by rw [Nat.add_mul, Nat.one_mul]]; exact ho⟩
    obtain ⟨_, _, hx3, _, _⟩ := ho.ex
    obtain ⟨o0, _, _⟩ := picV_ld hx3.rd
    rw [P19_28_eq LL L_loop]
    simp only [↓bLI o0, ↓ifDn (show ¬ ((x : Int) < (hf W : Int)) by omega)]
  | succ d ih =>
    intro x M hx ho
    have hxw : x < hf W := by omega
    obtain ⟨_, _, hx3, _, _⟩ := ho.ex
    obtain ⟨o0, _, _⟩ := picV_ld hx3.rd
    have h1M := h1.st ho.same
    -- four blocks
    have s1 := same_app M [AObj.cells [.int .i64 0, .int .i64 0, .int .i64 0] ⟨false, 0⟩]
    have g1 : Cells (M ++ [AObj.cells [.int .i64 0, .int .i64 0, .int .i64 0] ⟨false, 0⟩]) M.length (encP pz) := cells_new M _ 0
    have n1 : (M ++ [AObj.cells [.int .i64 0, .int .i64 0, .int .i64 0] ⟨false, 0⟩]).length = M.length + 1 := by simp
    generalize hM1 : M ++ [AObj.cells [.int .i64 0, .int .i64 0, .int .i64 0] ⟨false, 0⟩] = M1 at s1 g1 n1
    have s2 := same_app M1 [AObj.cells [.int .i64 0, .int .i64 0, .int .i64 0] ⟨false, 0⟩]
    have g2 : Cells (M1 ++ [AObj.cells [.int .i64 0, .int .i64 0, .int .i64 0] ⟨false, 0⟩]) M1.length (encP pz) := cells_new M1 _ 0
    have n2 : (M1 ++ [AObj.cells [.int .i64 0, .int .i64 0, .int .i64 0] ⟨false, 0⟩]).length = M1.length + 1 := by simp
    generalize hM2 : M1 ++ [AObj.cells [.int .i64 0, .int .i64 0, .int .i64 0] ⟨false, 0⟩] = M2 at s2 g2 n2
    have s3 := same_app M2 [AObj.cells [.int .i64 0, .int .i64 0, .int .i64 0] ⟨false, 0⟩]
    have g3 : Cells (M2 ++ [AObj.cells [.int .i64 0, .int .i64 0, .int .i64 0] ⟨false, 0⟩]) M2.length (encP pz) := cells_new M2 _ 0
    have n3 : (M2 ++ [AObj.cells [.int .i64 0, .int .i64 0, .int .i64 0] ⟨false, 0⟩]).length = M2.length + 1 := by simp
    generalize hM3 : M2 ++ [AObj.cells [.int .i64 0, .int .i64 0, .int .i64 0] ⟨false, 0⟩] = M3 at s3 g3 n3
    have s4 := same_app M3 [AObj.cells [.int .i64 0, .int .i64 0, .int .i64 0] ⟨false, 0⟩]
    have g4 : Cells (M3 ++ [AObj.cells [.int .i64 0, .int .i64 0, .int .i64 0] ⟨false, 0⟩]) M3.length (encP pz) := cells_new M3 _ 0
    have n4 : (M3 ++ [AObj.cells [.int .i64 0, .int .i64 0, .int .i64 0] ⟨false, 0⟩]).length = M3.length + 1 := by simp
    generalize hM4 : M3 ++ [AObj.cells [.int .i64 0, .int .i64 0, .int .i64 0] ⟨false, 0⟩] = M4 at s4 g4 n4
    have t4 : Same M M4 [] := (((s1.trans s2).trans s3).trans s4).mono (by simp)
    obtain ⟨a0, a1, a2⟩ := picV_ld (h1M.st t4).hd
    obtain ⟨N1, e1, r1⟩ := at_spec (x := 2 * x) (y := 2 * y) (cp := cp) bW bH (by omega) (by omega) hl (h1M.st t4).px
    have u1 : Same M N1 [] := (t4.trans r1).mono (by simp)
    obtain ⟨b0, b1, b2⟩ := picV_ld (h1M.st u1).hd
    obtain ⟨N2, e2, r2⟩ := at_spec (x := 2 * x + 1) (y := 2 * y) (cp := cp) bW bH (by omega) (by omega) hl (h1M.st u1).px
    have u2 : Same M N2 [] := (u1.trans r2).mono (by simp)
    obtain ⟨c0, c1, c2⟩ := picV_ld (h1M.st u2).hd
    obtain ⟨N3, e3, r3⟩ := at_spec (x := 2 * x) (y := 2 * y + 1) (cp := cp) bW bH (by omega) (by omega) hl (h1M.st u2).px
    have u3 : Same M N3 [] := (u2.trans r3).mono (by simp)
    obtain ⟨d0, d1, d2⟩ := picV_ld (h1M.st u3).hd
    obtain ⟨N4, e4, r4⟩ := at_spec (x := 2 * x + 1) (y := 2 * y + 1) (cp := cp) bW bH (by omega) (by omega) hl (h1M.st u3).px
    have u4 : Same M N4 [] := (u3.trans r4).mono (by simp)
    have r14 : Same M4 N4 [] := (((r1.trans r2).trans r3).trans r4).mono (by simp)
    unfold picV at e1 e2 e3 e4
    have fA : (atP W H l (2 * x) (2 * y)).fit := gP_fit hfit _
    have fB : (atP W H l (2 * x + 1) (2 * y)).fit := gP_fit hfit _
    have fC : (atP W H l (2 * x) (2 * y + 1)).fit := gP_fit hfit _
    have fD : (atP W H l (2 * x + 1) (2 * y + 1)).fit := gP_fit hfit _
    have hpx : halfP W H l x y = mk4 (atP W H l (2 * x) (2 * y)) (atP W H l (2 * x + 1) (2 * y)) (atP W H l (2 * x) (2 * y + 1)) (atP W H l (2 * x + 1) (2 * y + 1)) := rfl
    generalize atP W H l (2 * x) (2 * y) = PA at e1 fA hpx
    generalize atP W H l (2 * x + 1) (2 * y) = PB at e2 fB hpx
    generalize atP W H l (2 * x) (2 * y + 1) = PC at e3 fC hpx
    generalize atP W H l (2 * x + 1) (2 * y + 1) = PD at e4 fD hpx
    have G1 := (((g1.same s2 (by simp)).same s3 (by simp)).same s4 (by simp)).same r14 (by simp)
    have G2 := ((g2.same s3 (by simp)).same s4 (by simp)).same r14 (by simp)
    have G3 := (g3.same s4 (by simp)).same r14 (by simp)
    have G4 := g4.same r14 (by simp)
    obtain ⟨Q1, w1, w2, w3, w4⟩ := G1.wr (o := 0) (vs := encP PA) (by simp [encP])
    obtain ⟨Q2, w5, w6, w7, w8⟩ := (G2.same w3 (by simp; omega)).wr (o := 0) (vs := encP PB) (by simp [encP])
    obtain ⟨Q3, w9, w10, w11, w12⟩ := ((G3.same w3 (by simp; omega)).same w7 (by simp; omega)).wr (o := 0) (vs := encP PC) (by simp [encP])
    obtain ⟨Q4, w13, w14, w15, w16⟩ := (((G4.same w3 (by simp; omega)).same w7 (by simp; omega)).same w11 (by simp; omega)).wr (o := 0) (vs := encP PD) (by simp [encP])
    have v1 : Cells Q4 M.length (encP PA) := by
      have : Cells Q1 M.length (encP PA) := by simpa [wrL, encP] using w2
      exact ((this.same w7 (by simp; omega)).same w11 (by simp; omega)).same w15 (by simp; omega)
    have v2 : Cells Q4 M1.length (encP PB) := by
      have : Cells Q2 M1.length (encP PB) := by simpa [wrL, encP] using w6
      exact (this.same w11 (by simp; omega)).same w15 (by simp; omega)
    have v3 : Cells Q4 M2.length (encP PC) := by
      have : Cells Q3 M2.length (encP PC) := by simpa [wrL, encP] using w10
      exact this.same w15 (by simp; omega)
    have v4 : Cells Q4 M3.length (encP PD) := by simpa [wrL, encP] using w14
    have uQ : Same M Q4 [] := ((((u4.trans w3).trans w7).trans w11).trans w15).mono' (by simp <;> omega)
    have g5 : Cells (Q4 ++ [AObj.cells [.int .i64 0, .int .i64 0, .int .i64 0] ⟨false, 0⟩]) Q4.length (encP pz) := cells_new Q4 _ 0
    have s5 := same_app Q4 [AObj.cells [.int .i64 0, .int .i64 0, .int .i64 0] ⟨false, 0⟩]
    obtain ⟨R1, p1, p2, p3⟩ := rh_chan (x1 := x1) (x2 := x2) (x3 := x3) (y := (y : Int)) (x := (x : Int)) (c := 0) (by omega) v1.rd v2.rd v3.rd v4.rd fA fB fC fD (Nat.le_refl _) s5 g5
    obtain ⟨R2, p4, p5, p6⟩ := rh_chan (x1 := x1) (x2 := x2) (x3 := x3) (y := (y : Int)) (x := (x : Int)) (c := 1) (by omega) v1.rd v2.rd v3.rd v4.rd fA fB fC fD (Nat.le_refl _) p3 p2
    obtain ⟨R3, p7, p8, p9⟩ := rh_chan (x1 := x1) (x2 := x2) (x3 := x3) (y := (y : Int)) (x := (x : Int)) (c := 2) (by omega) v1.rd v2.rd v3.rd v4.rd fA fB fC fD (Nat.le_refl _) p6 p5
    have hp8 : Cells R3 Q4.length (encP (mk4 PA PB PC PD)) := p8
    have uR : Same M R3 [] := (uQ.trans p9).mono (by simp)
    have htl : ((halfL W H l).take (y * hf W + x)).length ≤ 65536 := by rw [List.length_take, hlen]; omega
    obtain ⟨o, oc, M9, M10, t1, t2, t3, t4', t5⟩ := out_app (ho.st uR) htl (mk4 PA PB PC PD)
    rw [← hpx] at t5
    rw [show (halfL W H l).take (y * hf W + x) ++ [halfP W H l x y] = (halfL W H l).take (y * hf W + x + 1) from (tab_take hxw hy).symm] at t5
    obtain ⟨M', k1, k2⟩ := ih (x + 1) M10 (by omega) t5
    refine ⟨M', ?_, k2⟩
    have x0 : AMem.ld R3 Q4.length 0 = some (.int .i64 (mk4 PA PB PC PD).r) := hp8.ld 0
    have x1' : AMem.ld R3 Q4.length 1 = some (.int .i64 (mk4 PA PB PC PD).g) := hp8.ld 1
    have x2' : AMem.ld R3 Q4.length 2 = some (.int .i64 (mk4 PA PB PC PD).b) := hp8.ld 2
    have bx : x ≤ 128 := by omega
    have bY : y ≤ 128 := by omega
    have m1 : IntKind.wrap .i64 (2 * (x : Int)) = ((2 * x : Nat) : Int) := by rw [w64 (by omega)]; omega
    have m2 : IntKind.wrap .i64 (2 * (y : Int)) = ((2 * y : Nat) : Int) := by rw [w64 (by omega)]; omega
    have m3 : IntKind.wrap .i64 (((2 * x : Nat) : Int) + 1) = ((2 * x + 1 : Nat) : Int) := by rw [w64 (by omega)]; rfl
    have m4 : IntKind.wrap .i64 (((2 * y : Nat) : Int) + 1) = ((2 * y + 1 : Nat) : Int) := by rw [w64 (by omega)]; rfl
    have hwi : IntKind.wrap .i64 ((x : Int) + 1) = ((x + 1 : Nat) : Int) := by rw [w64 (by omega)]; rfl
    have hck : ∀ pairs, chkOk pairs [(31, M3.length), (30, M2.length), (29, M1.length), (28, M.length), (20, x1), (13, x1), (6, x1)] [(27, (N3, N4)), (19, (N2, N3)), (12, (N1, N2)), (5, (M4, N1))] = true := fun pairs => by
      refine chk_all fun z hz e he => ?_
      have hz4 : z.2 < M4.length := by
        have := h1M.lt
        simp only [List.mem_cons, List.not_mem_nil, or_false] at hz
        rcases hz with rfl | rfl | rfl | rfl | rfl | rfl | rfl <;> simp <;> omega
      have q1 := r1.le
      have q2 := r2.le
      have q3 := r3.le
      simp only [List.mem_cons, List.not_mem_nil, or_false] at he
      rcases he with rfl | rfl | rfl | rfl
      · exact ver_same r4 (by omega) (by simp)
      · exact ver_same r3 (by omega) (by simp)
      · exact ver_same r2 (by omega) (by simp)
      · exact ver_same r1 (by omega) (by simp)
    have tt := (p1.trans p4).trans p7
    rw [show ((0 : Nat) : Int) = 0 from rfl] at tt
    unfold encP at w1 w5 w9 w13
    rw [P19_28_eq LL L_loop, hM1, hM2, hM3, hM4]
    simp only [↓bLI o0, ↓ifD (show (x : Int) < (hf W : Int) by omega), ↓bLI a0, ↓bLI a1, ↓bLS a2, m1, m2, m3, m4, ↓bX e1, ↓bA3', ↓bI0, ↓bI1, ↓bI2, ↓bLI b0, ↓bLI b1, ↓bLS b2, ↓bX e2, ↓bLI c0, ↓bLI c1, ↓bLS c2, ↓bX e3, ↓bLI d0, ↓bLI d1, ↓bLS d2, ↓bX e4, ↓bX w1, ↓bX w5, ↓bX w9, ↓bX w13, ↓if_pos (hck _)]
    rw [P19_39_eq, tt, P19_45_eq LL L_loop, ifDn (show ¬ (((2 + 1 : Nat) : Int) < 3) by omega), P19_56_eq]
    simp only [↓bLS t1, ↓bLI x0, ↓bLI x1', ↓bLI x2', ↓bX t2, t3, ↓bX t4', P19_57_eq, hwi]
    exact k1

theorem rh_loop {W H : Nat} (bW : 1 ≤ W ∧ W ≤ 256) (bH : 1 ≤ H ∧ H ≤ 256) {p : Option Addr} {cp : Nat} {l : List Px} (hl : l.length = W * H) (hfit : ∀ x ∈ l, x.fit) {x1 x2 x3 : Nat} {B : AMem} (h1 : IsPic B x1 (W : Int) (H : Int) p cp l) (h2 : Cells B x2 [.int .i64 0, .int .i64 0, .slice none 0 0]) :
    ∀ (d y : Nat) (M : AMem), y + d = hf H → Out B M x3 (hf W : Int) (hf H : Int) ((halfL W H l).take (y * hf W)) →
      ∃ M' o oc, P19_16 LL x1 x2 x3 (y : Int) M = some (picV (hf W : Int) (hf H : Int) o (hf W * hf H) oc, M') ∧ RdL M' encP o (hf W * hf H) (halfL W H l) ∧ Same B M' [x2] ∧ (∀ z ∈ blk o, B.length ≤ z) := by
  have bw : 1 ≤ hf W ∧ hf W ≤ 128 := by unfold hf; omega
  have bh : 1 ≤ hf H ∧ hf H ≤ 128 := by unfold hf; omega
  have hlen : (halfL W H l).length = hf W * hf H := by simp [halfL]
  have hwh1 : 1 ≤ hf W * hf H := Nat.mul_pos bw.1 bh.1
  intro d
  induction d with
  | zero =>
    intro y M hy ho
    have hyh : y = hf H := by omega
    rw [hyh, List.take_of_length_le (by rw [hlen, Nat.mul_comm]; exact Nat.le_refl _)] at ho
    obtain ⟨o, oc, o1, o2, o3⟩ := ho.pic (by omega)
    rw [hlen] at o1 o2
    obtain ⟨e0, e1, e2⟩ := picV_ld o1.rd
    have h2' := h2.same ho.same (by simp)
    obtain ⟨M1, w1, w2, w3, w4⟩ := h2'.wr (o := 0) (vs := [.int .i64 (hf W : Int), .int .i64 (hf H : Int), .slice o (hf W * hf H) oc]) (by simp)
    have w2' : Cells M1 x2 [.int .i64 (hf W : Int), .int .i64 (hf H : Int), .slice o (hf W * hf H) oc] := by simpa [wrL] using w2
    obtain ⟨f0, f1, f2⟩ := picV_ld w2'.rd
    have h2l := h2.lt
    refine ⟨M1, o, oc, ?_, o2.same w3 (fun z hz => by have := (o3 z hz).1; simp; omega), (ho.same.trans w3).mono (by simp), fun z hz => (o3 z hz).1⟩
    rw [P19_16_eq LL L_loop]
    simp only [↓bLI e1, ↓ifDn (show ¬ ((y : Int) < (hf H : Int)) by omega), P19_59_eq, ↓bLI e0, ↓bLS e2, ↓bX w1, ↓bLI f0, ↓bLI f1, ↓bLS f2]
    rfl
  | succ d ih =>
    intro y M hy ho
    obtain ⟨_, _, hx3, _, _⟩ := ho.ex
    obtain ⟨_, o1, _⟩ := picV_ld hx3.rd
    obtain ⟨M1, k1, k2⟩ := rh_row (x2 := x2) bW bH hl hfit h1 (show y < hf H by omega) (hf W) 0 M (by omega) (by rw [Nat.add_zero]; exact ho)
    obtain ⟨M', o, oc, r1, r2, r3, r4⟩ := ih (y + 1) M1 (by omega) k2
    refine ⟨M', o, oc, ?_, r2, r3, r4⟩
    have hwi : IntKind.wrap .i64 ((y : Int) + 1) = ((y + 1 : Nat) : Int) := by rw [w64 (by omega)]; rfl
    rw [show ((0 : Nat) : Int) = 0 from rfl] at k1
    rw [P19_16_eq LL L_loop]
    simp only [↓bLI o1, ↓ifD (show (y : Int) < (hf H : Int) by omega)]
    rw [k1, P19_58_eq, hwi]
    exact r1

theorem rhalf_spec {W H : Int} {p : Option Addr} {cp : Nat} {l : List Px} (hl : l.length ≤ 9223372036854775807) {M : AMem} (hp : RdL M encP p l.length l) :
    (PFit W H l → ∃ M' o oc, LL.call 19 [picV W H p l.length cp] M = some (picV (hf W.toNat : Int) (hf H.toNat : Int) o (hf W.toNat * hf H.toNat) oc, M') ∧ RdL M' encP o (hf W.toNat * hf H.toNat) (halfL W.toNat H.toNat l) ∧ Same M M' [] ∧ (∀ z ∈ blk o, M.length ≤ z)) ∧
    (¬ PFit W H l → ∃ M', LL.call 19 [picV W H p l.length cp] M = some (picV 0 0 none 0 0, M') ∧ Same M M' []) := by
  rw [L_call19]
  unfold picV
  rw [E19]
  have g0 := cells_new M [.int .i64 W, .int .i64 H, .slice p l.length cp] 0
  have s0 := same_app M [AObj.cells [.int .i64 W, .int .i64 H, .slice p l.length cp] ⟨false, 0⟩]
  have n0 : (M ++ [AObj.cells [.int .i64 W, .int .i64 H, .slice p l.length cp] ⟨false, 0⟩]).length = M.length + 1 := by simp
  generalize hM0 : M ++ [AObj.cells [.int .i64 W, .int .i64 H, .slice p l.length cp] ⟨false, 0⟩] = M0 at g0 s0 n0
  have g1 := cells_new M0 [.int .i64 0, .int .i64 0, .slice none 0 0] 0
  have s1 := same_app M0 [AObj.cells [.int .i64 0, .int .i64 0, .slice none 0 0] ⟨false, 0⟩]
  have n1 : (M0 ++ [AObj.cells [.int .i64 0, .int .i64 0, .slice none 0 0] ⟨false, 0⟩]).length = M0.length + 1 := by simp
  generalize hM1 : M0 ++ [AObj.cells [.int .i64 0, .int .i64 0, .slice none 0 0] ⟨false, 0⟩] = M1 at g1 s1 n1
  have hs : Same M M1 [] := (s0.trans s1).mono (by simp)
  have a : IsPic M1 M.length W H p cp l := ⟨(g0.same s1 (by simp)).rd, hp.same hs (by simp)⟩
  obtain ⟨a0, a1, a2⟩ := picV_ld a.hd
  obtain ⟨M2, e2, s2⟩ := right41_spec (W := W) (H := H) (c := cp) hl a.px
  unfold picV at e2
  have hs2 : Same M M2 [] := (hs.trans s2).mono (by simp)
  have l2 := s2.le
  simp only [↓bLI a0, ↓bLI a1, ↓bLS a2, ↓bX e2, ↓bB]
  refine ⟨fun hf' => ?_, fun hf' => ?_⟩
  · obtain ⟨f1, f2, f3, f4⟩ := hf'
    have hft : decide (PFit W H l) = true := decide_eq_true ⟨f1, f2, f3, f4⟩
    obtain ⟨w, rfl⟩ : ∃ w : Nat, W = (w : Int) := ⟨W.toNat, by omega⟩
    obtain ⟨h, rfl⟩ : ∃ h : Nat, H = (h : Int) := ⟨H.toNat, by omega⟩
    simp only [Int.toNat_natCast]
    have a2' := a.st s2
    obtain ⟨b0, b1, b2⟩ := picV_ld a2'.hd
    have hlen : l.length = w * h := by rw [← Int.natCast_mul] at f4; omega
    have k1 := rhf_spec (n := w) (by omega)
    have k2 := rhf_spec (n := h) (by omega)
    obtain ⟨M3, y1, y2, y3, y4⟩ := wr_new M2 [.int .i64 0, .int .i64 0, .slice none 0 0] [.int .i64 (hf w : Int), .int .i64 (hf h : Int), .slice none 0 0] 0 rfl
    have s3 := same_app M2 [AObj.cells [.int .i64 0, .int .i64 0, .slice none 0 0] ⟨false, 0⟩]
    have hck : chkOk [(1, 7), (4, 7)] [(4, M.length), (1, M.length)] [(7, (M2, M2 ++ [AObj.cells [.int .i64 0, .int .i64 0, .slice none 0 0] ⟨false, 0⟩]))] = true := by
      simp [chkOk, List.lookup, ver_same s3 (show M.length < M2.length by omega) (by simp)]
    have ho : Out M2 M3 M2.length (hf w : Int) (hf h : Int) ((halfL w h l).take (0 * hf w)) := ⟨⟨none, 0, by simpa using y2, by simpa using Slc.nil M3 3 0, by simp⟩, y3, Nat.le_refl _⟩
    obtain ⟨M', o, oc, t1, t2, t3, t4⟩ := rh_loop (by omega) (by omega) hlen f1 a2' (g1.same s2 (by simp)) (hf h) 0 M3 (by omega) ho
    refine ⟨M', o, oc, ?_, t2, (hs2.trans t3).mono' (by simp; omega), fun z hz => by have := t4 z hz; omega⟩
    simp only [hft, ↓ifNT, ↓bLI b0, ↓bX k1, ↓bI, ↓bLI b1, ↓bX k2, ↓bX y1, ↓if_pos hck]
    exact t1
  · have hft : decide (PFit W H l) = false := decide_eq_false hf'
    obtain ⟨M4, w1, w2, w3, w4⟩ := (g1.same s2 (by simp)).wr (o := 0) (vs := [.int .i64 0, .int .i64 0, .slice none 0 0]) (by simp)
    have w2' : Cells M4 M0.length [.int .i64 0, .int .i64 0, .slice none 0 0] := by simpa [wrL] using w2
    obtain ⟨c0, c1, c2⟩ := picV_ld w2'.rd
    refine ⟨M4, ?_, (hs2.trans w3).mono' (by simp; omega)⟩
    simp only [hft, ↓ifNF, ↓bX w1, ↓bLI c0, ↓bLI c1, ↓bLS c2]

end Go.Proofs.Ytncfdkmhpnopiaa
