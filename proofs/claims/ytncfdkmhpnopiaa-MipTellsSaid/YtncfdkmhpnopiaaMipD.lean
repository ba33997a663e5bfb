/- mip.Double. -/
import Derived.Test.YtncfdkmhpnopiaaMipP
import Derived.Test.YtncfdkmhpnopiaaEqMip2
set_option linter.unusedVariables false
set_option linter.unusedSimpArgs false
namespace Go.Proofs.Ytncfdkmhpnopiaa
open Go Go.Ax

theorem dblL_length (W w h : Nat) (l : List Px) : (dblL W w h l).length = w * h := by simp [dblL]

theorem dbl_take {W w h y x : Nat} {l : List Px} (hx : x < w) (hy : y < h) : (dblL W w h l).take (y * w + x + 1) = (dblL W w h l).take (y * w + x) ++ [gP l (y / 2 * W + x / 2)] := by
  have hi : y * w + x < w * h := by
    have := Nat.mul_le_mul_right w (show y + 1 ≤ h by omega)
    rw [Nat.mul_comm w h]; rw [Nat.add_mul] at this; omega
  refine take_snoc ?_
  rw [dblL, tab_get hi]
  have d1 : (y * w + x) / w = y := by rw [Nat.mul_comm, Nat.mul_add_div (by omega), Nat.div_eq_of_lt hx, Nat.add_zero]
  have d2 : (y * w + x) % w = x := by rw [Nat.mul_comm, Nat.mul_add_mod, Nat.mod_eq_of_lt hx]
  rw [d1, d2]

theorem dbl_row {W H w h : Nat} (bw : 1 ≤ w ∧ w ≤ 256) (bh : 1 ≤ h ∧ h ≤ 256) (eW : hf w = W) (eH : hf h = H) {p : Option Addr} {cp : Nat} {l : List Px} (hl : l.length = W * H) {x3 x6 x8 : Nat} {B : AMem} (h3 : IsPic B x3 (W : Int) (H : Int) p cp l) {y : Nat} (hy : y < h) :
    ∀ (d x : Nat) (M : AMem), x + d = w → Out B M x8 (w : Int) (h : Int) ((dblL W w h l).take (y * w + x)) →
      ∃ M', P11_30 LL (w : Int) x3 x6 x8 (y : Int) (h : Int) (y : Int) (w : Int) (x : Int) M = P11_43 LL (w : Int) x3 x6 x8 (h : Int) (y : Int) M' ∧ Out B M' x8 (w : Int) (h : Int) ((dblL W w h l).take ((y + 1) * w)) := by
  have hlen := dblL_length W w h l
  have hwh : w * h ≤ 256 * 256 := Nat.mul_le_mul bw.2 bh.2
  intro d
  induction d with
  | zero =>
    intro x M hx ho
    obtain rfl : x = w := by omega
    refine ⟨M, ?_, by rw [show (y + 1) * x = y * x + x by rw [Nat.add_mul, Nat.one_mul]]; exact ho⟩
    rw [P11_30_eq LL L_loop, ifDn (Int.lt_irrefl _)]
  | succ d ih =>
    intro x M hx ho
    have hxw : x < w := by omega
    have h3' := h3.st ho.same
    obtain ⟨a0, _, a2⟩ := picV_ld h3'.hd
    have hYH : y / 2 < H := by unfold hf at eH; omega
    have hXW : x / 2 < W := by unfold hf at eW; omega
    have hj : y / 2 * W + x / 2 < l.length := by
      have := Nat.mul_le_mul_right W (show y / 2 + 1 ≤ H by omega)
      rw [hl, Nat.mul_comm W H]; rw [Nat.add_mul] at this; omega
    have hl2 : l.length ≤ 256 * 256 := by rw [hl]; exact Nat.mul_le_mul (by unfold hf at eW; omega) (by unfold hf at eH; omega)
    obtain ⟨b, rfl, hb⟩ := h3'.px.2 (by omega)
    obtain ⟨e0, e1, e2⟩ := px_ld hb (gP_get hj)
    have htl : ((dblL W w h l).take (y * w + x)).length ≤ 65536 := by rw [List.length_take, hlen]; omega
    obtain ⟨o, oc, M9, M10, t1, t2, t3, t4, t5⟩ := out_app ho htl (gP l (y / 2 * W + x / 2))
    rw [← dbl_take hxw hy] at t5
    obtain ⟨M', r1, r2⟩ := ih (x + 1) M10 (by omega) t5
    refine ⟨M', ?_, r2⟩
    have hlt : (x : Int) < (w : Int) := by omega
    have m1 : IntKind.wrap .i64 (Int.tdiv (y : Int) 2) = ((y / 2 : Nat) : Int) := by
      rw [show Int.tdiv (y : Int) 2 = ((y / 2 : Nat) : Int) from (Int.ofNat_tdiv y 2).symm]; exact w64 (by omega)
    have m2 : IntKind.wrap .i64 (Int.tdiv (x : Int) 2) = ((x / 2 : Nat) : Int) := by
      rw [show Int.tdiv (x : Int) 2 = ((x / 2 : Nat) : Int) from (Int.ofNat_tdiv x 2).symm]; exact w64 (by omega)
    have m3 : IntKind.wrap .i64 (((y / 2 : Nat) : Int) * (W : Int)) = ((y / 2 * W : Nat) : Int) := by
      rw [← Int.natCast_mul]
      generalize y / 2 * W = q at hj
      exact w64 (by omega)
    have m4 : IntKind.wrap .i64 (((y / 2 * W : Nat) : Int) + ((x / 2 : Nat) : Int)) = ((y / 2 * W + x / 2 : Nat) : Int) := by
      generalize y / 2 * W = q at hj
      generalize x / 2 = r at hj
      rw [w64 (by omega)]; rfl
    have hg : (0 : Int) ≤ ((y / 2 * W + x / 2 : Nat) : Int) ∧ ((y / 2 * W + x / 2 : Nat) : Int) < Int.ofNat l.length := by
      rw [ofN]
      generalize y / 2 * W + x / 2 = q at hj
      omega
    have hwi : IntKind.wrap .i64 ((x : Int) + 1) = ((x + 1 : Nat) : Int) := by rw [w64 (by omega)]; rfl
    obtain ⟨p', c', hx8, _, _⟩ := ho.ex
    have hchk : chkOk [(1, 14)] [(1, x8)] [(14, (M, M ++ [AObj.cells [.int .i64 (gP l (y / 2 * W + x / 2)).r, .int .i64 (gP l (y / 2 * W + x / 2)).g, .int .i64 (gP l (y / 2 * W + x / 2)).b] ⟨false, 0⟩]))] = true := by
      have v1 := ver_same (same_app M [AObj.cells [.int .i64 (gP l (y / 2 * W + x / 2)).r, .int .i64 (gP l (y / 2 * W + x / 2)).g, .int .i64 (gP l (y / 2 * W + x / 2)).b] ⟨false, 0⟩]) hx8.lt (by simp)
      simp [chkOk, List.lookup, v1]
    rw [P11_30_eq LL L_loop, ifD hlt]
    simp only [↓bLS t1, ↓bLS a2, ↓bLI a0, m1, m2, m3, m4, ↓if_pos hg, Int.toNat_natCast, Nat.zero_add, ↓bLI e0, ↓bLI e1, ↓bLI e2, ↓bX t2, t3, ↓bX t4, ↓if_pos hchk, P11_42_eq, hwi]
    exact r1

theorem dbl_loop {W H w h : Nat} (bw : 1 ≤ w ∧ w ≤ 256) (bh : 1 ≤ h ∧ h ≤ 256) (eW : hf w = W) (eH : hf h = H) {p : Option Addr} {cp : Nat} {l : List Px} (hl : l.length = W * H) {x3 x6 x8 : Nat} {B : AMem} (h3 : IsPic B x3 (W : Int) (H : Int) p cp l) (h6 : Cells B x6 [.int .i64 0, .int .i64 0, .slice none 0 0]) :
    ∀ (d y : Nat) (M : AMem), y + d = h → Out B M x8 (w : Int) (h : Int) ((dblL W w h l).take (y * w)) →
      ∃ M' o oc, P11_16 LL (w : Int) x3 x6 x8 (h : Int) (y : Int) M = some (.tuple #[picV (w : Int) (h : Int) o (w * h) oc, .bool true], M') ∧ RdL M' encP o (w * h) (dblL W w h l) ∧ Same B M' [x6] ∧ (∀ z ∈ blk o, B.length ≤ z) := by
  have hlen := dblL_length W w h l
  have hwh1 : 1 ≤ w * h := Nat.mul_pos bw.1 bh.1
  intro d
  induction d with
  | zero =>
    intro y M hy ho
    obtain rfl : y = h := by omega
    rw [List.take_of_length_le (by rw [hlen, Nat.mul_comm]; exact Nat.le_refl _)] at ho
    obtain ⟨o, oc, o1, o2, o3⟩ := ho.pic (by omega)
    rw [hlen] at o1 o2
    obtain ⟨e0, e1, e2⟩ := picV_ld o1.rd
    have h6' := h6.same ho.same (by simp)
    obtain ⟨M1, w1, w2, w3, w4⟩ := h6'.wr (o := 0) (vs := [.int .i64 (w : Int), .int .i64 (y : Int), .slice o (w * y) oc]) (by simp)
    have w2' : Cells M1 x6 [.int .i64 (w : Int), .int .i64 (y : Int), .slice o (w * y) oc] := by simpa [wrL] using w2
    obtain ⟨f0, f1, f2⟩ := picV_ld w2'.rd
    have h6l := h6.lt
    refine ⟨M1, o, oc, ?_, o2.same w3 (fun z hz => by have := (o3 z hz).1; simp; omega), (ho.same.trans w3).mono (by simp), fun z hz => (o3 z hz).1⟩
    rw [P11_16_eq LL L_loop, ifDn (Int.lt_irrefl _), P11_44_eq]
    simp only [↓bLI e0, ↓bLI e1, ↓bLS e2, ↓bX w1, ↓bLI f0, ↓bLI f1, ↓bLS f2]
    rfl
  | succ d ih =>
    intro y M hy ho
    obtain ⟨M1, k1, k2⟩ := dbl_row (x6 := x6) bw bh eW eH hl h3 (show y < h by omega) w 0 M (by omega) (by rw [Nat.add_zero]; exact ho)
    obtain ⟨M', o, oc, r1, r2, r3, r4⟩ := ih (y + 1) M1 (by omega) k2
    refine ⟨M', o, oc, ?_, r2, r3, r4⟩
    have hwi : IntKind.wrap .i64 ((y : Int) + 1) = ((y + 1 : Nat) : Int) := by rw [w64 (by omega)]; rfl
    rw [show ((0 : Nat) : Int) = 0 from rfl] at k1
    rw [P11_16_eq LL L_loop, ifD (show (y : Int) < (h : Int) by omega), k1, P11_43_eq, hwi]
    exact r1

/-- May it be doubled so? -/
def DFit (W H : Int) (l : List Px) (w h : Int) : Prop := PFit W H l ∧ (1 ≤ w ∧ w ≤ 256) ∧ (1 ≤ h ∧ h ≤ 256) ∧ (hf w.toNat : Int) = W ∧ (hf h.toNat : Int) = H
instance (W H : Int) (l : List Px) (w h : Int) : Decidable (DFit W H l w h) := by unfold DFit; infer_instance

theorem double_spec {W H w h : Int} {p : Option Addr} {cp : Nat} {l : List Px} (hl : l.length ≤ 9223372036854775807) {M : AMem} (hp : RdL M encP p l.length l) :
    (DFit W H l w h → ∃ M' o oc, LL.call 11 [picV W H p l.length cp, .int .i64 w, .int .i64 h] M = some (.tuple #[picV w h o (w.toNat * h.toNat) oc, .bool true], M') ∧ RdL M' encP o (w.toNat * h.toNat) (dblL W.toNat w.toNat h.toNat l) ∧ Same M M' [] ∧ (∀ z ∈ blk o, M.length ≤ z)) ∧
    (¬ DFit W H l w h → ∃ M', LL.call 11 [picV W H p l.length cp, .int .i64 w, .int .i64 h] M = some (.tuple #[picV 0 0 none 0 0, .bool false], M') ∧ Same M M' []) := by
  rw [L_call11]
  unfold picV
  rw [E11]
  have g0 := cells_new M [.int .i64 W, .int .i64 H, .slice p l.length cp] 0
  have s0 := same_app M [AObj.cells [.int .i64 W, .int .i64 H, .slice p l.length cp] ⟨false, 0⟩]
  have n0 : (M ++ [AObj.cells [.int .i64 W, .int .i64 H, .slice p l.length cp] ⟨false, 0⟩]).length = M.length + 1 := by simp
  generalize hM0 : M ++ [AObj.cells [.int .i64 W, .int .i64 H, .slice p l.length cp] ⟨false, 0⟩] = M0 at g0 s0 n0
  have g1 := cells_new M0 [.int .i64 0, .int .i64 0, .slice none 0 0] 0
  have s1 := same_app M0 [AObj.cells [.int .i64 0, .int .i64 0, .slice none 0 0] ⟨false, 0⟩]
  have n1 : (M0 ++ [AObj.cells [.int .i64 0, .int .i64 0, .slice none 0 0] ⟨false, 0⟩]).length = M0.length + 1 := by simp
  generalize hM1 : M0 ++ [AObj.cells [.int .i64 0, .int .i64 0, .slice none 0 0] ⟨false, 0⟩] = M1 at g1 s1 n1
  have hs : Same M M1 [] := (s0.trans s1).mono (by simp)
  have a : IsPic M1 M.length W H p cp l := ⟨(g0.same s1 (by simp)).rd, hp.same hs (by simp)⟩
  obtain ⟨a0, a1, a2⟩ := picV_ld a.hd
  have bad : ∀ N, Same M1 N [] → ∃ N', AMem.wr N M0.length 0 [.int .i64 0, .int .i64 0, .slice none 0 0] = some N' ∧ (AMem.ld N' M0.length 0 = some (.int .i64 0) ∧ AMem.ld N' M0.length 1 = some (.int .i64 0) ∧ AMem.ld N' M0.length 2 = some (.slice none 0 0)) ∧ Same M N' [] := fun N hN => by
    obtain ⟨M4, w1, w2, w3, w4⟩ := (g1.same hN (by simp)).wr (o := 0) (vs := [.int .i64 0, .int .i64 0, .slice none 0 0]) (by simp)
    have w2' : Cells M4 M0.length [.int .i64 0, .int .i64 0, .slice none 0 0] := by simpa [wrL] using w2
    exact ⟨M4, w1, picV_ld w2'.rd, ((hs.trans hN).trans w3).mono' (by simp; omega)⟩
  obtain ⟨B1, v1, ⟨v2, v3, v4⟩, v5⟩ := bad M1 (.refl _ _)
  by_cases q1 : (if h < w then h else w) < 1
  · refine ⟨fun hd => absurd hd.2 (by split at q1 <;> omega), fun _ => ⟨B1, ?_, v5⟩⟩
    simp only [↓ifD q1, ↓bX v1, ↓bLI v2, ↓bLI v3, ↓bLS v4]
  by_cases q2 : (if h > w then h else w) > 256
  · refine ⟨fun hd => absurd hd.2 (by split at q2 <;> omega), fun _ => ⟨B1, ?_, v5⟩⟩
    simp only [↓ifDn q1, ↓ifD q2, ↓bX v1, ↓bLI v2, ↓bLI v3, ↓bLS v4]
  have r1 : (1 ≤ w ∧ w ≤ 256) ∧ (1 ≤ h ∧ h ≤ 256) := by split at q1 <;> split at q2 <;> omega
  obtain ⟨w', rfl⟩ : ∃ n : Nat, w = (n : Int) := ⟨w.toNat, by omega⟩
  obtain ⟨h', rfl⟩ : ∃ n : Nat, h = (n : Int) := ⟨h.toNat, by omega⟩
  have k1 := mhalf_spec (n := w') (by omega)
  have k2 := mhalf_spec (n := h') (by omega)
  simp only [Int.toNat_natCast, DFit]
  by_cases q3 : (hf w' : Int) = W
  · have q3' : ((hf w' : Int) != W) = false := by simp [q3]
    by_cases q4 : (hf h' : Int) = H
    · have q4' : ((hf h' : Int) != H) = false := by simp [q4]
      obtain ⟨M2, e2, s2⟩ := right_spec (W := W) (H := H) (c := cp) hl a.px
      unfold picV at e2
      by_cases hft : PFit W H l
      · have hdt : decide (PFit W H l) = true := decide_eq_true hft
        refine ⟨fun _ => ?_, fun hn => absurd ⟨hft, by omega, by omega, q3, q4⟩ hn⟩
        subst q3
        subst q4
        have a' := a.st s2
        have hlen : l.length = hf w' * hf h' := by have := hft.2.2.2; rw [← Int.natCast_mul] at this; omega
        have hwh : w' * h' ≤ 256 * 256 := Nat.mul_le_mul (by omega) (by omega)
        have hm : IntKind.wrap .i64 ((w' : Int) * (h' : Int)) = ((w' * h' : Nat) : Int) := by
          rw [← Int.natCast_mul]; exact w64 (by omega)
        have hg : (0 : Int) ≤ 0 ∧ 0 ≤ ((w' * h' : Nat) : Int) ∧ ((w' * h' : Nat) : Int) ≤ 140737488355328 ∧ ((w' * h' : Nat) : Int) * 24 ≤ 140737488355328 := by omega
        have g3 := cells_new M2 [] 0
        have s3 := same_app M2 [AObj.cells [] ⟨false, 0⟩]
        have n3 : (M2 ++ [AObj.cells [] ⟨false, 0⟩]).length = M2.length + 1 := by simp
        generalize hM3 : M2 ++ [AObj.cells [] ⟨false, 0⟩] = M3 at g3 s3 n3
        obtain ⟨M4, y1, y2, y3, y4⟩ := wr_new M3 [.int .i64 0, .int .i64 0, .slice none 0 0] [.int .i64 (w' : Int), .int .i64 (h' : Int), .slice (some ⟨M2.length, 0, none⟩) 0 3] 0 rfl
        have l2 := s2.le
        have ho : Out M2 M4 M3.length (w' : Int) (h' : Int) ((dblL (hf w') w' h' l).take (0 * w')) := ⟨⟨some ⟨M2.length, 0, none⟩, 3, by simpa using y2, by simpa using Slc.of (esz := 3) (n := 0) (g3.same y3 (by simp)) rfl, by simp; omega⟩, (s3.trans y3).mono (by simp), by omega⟩
        obtain ⟨M', o, oc, t1, t2, t3, t4⟩ := dbl_loop (x6 := M0.length) (by omega) (by omega) rfl rfl hlen a' (g1.same s2 (by simp)) h' 0 M4 (by omega) ho
        refine ⟨M', o, oc, ?_, by simpa using t2, ((hs.trans s2).trans t3).mono' (by simp; omega), fun z hz => by have := t4 z hz; omega⟩
        simp only [↓ifDn q1, ↓ifDn q2, ↓bX k1, ↓bI, ↓bLI a0, q3', ↓ifF, ↓bX k2, ↓bLI a1, q4', ↓bLS a2, ↓bX e2, ↓bB, hdt, ↓ifNT, hm, ↓if_pos hg]
        rw [hM3]
        simp only [↓bX y1]
        exact t1
      · have hdt : decide (PFit W H l) = false := decide_eq_false hft
        obtain ⟨B2, u1, ⟨u2, u3, u4⟩, u5⟩ := bad M2 s2
        refine ⟨fun hd => absurd hd.1 hft, fun _ => ⟨B2, ?_, u5⟩⟩
        simp only [↓ifDn q1, ↓ifDn q2, ↓bX k1, ↓bI, ↓bLI a0, q3', ↓ifF, ↓bX k2, ↓bLI a1, q4', ↓bLS a2, ↓bX e2, ↓bB, hdt, ↓ifNF, ↓bX u1, ↓bLI u2, ↓bLI u3, ↓bLS u4]
    · have q4' : ((hf h' : Int) != H) = true := by simp [q4]
      refine ⟨fun hd => absurd hd.2.2.2.2 q4, fun _ => ⟨B1, ?_, v5⟩⟩
      simp only [↓ifDn q1, ↓ifDn q2, ↓bX k1, ↓bI, ↓bLI a0, q3', ↓ifF, ↓bX k2, ↓bLI a1, q4', if_true, ↓ifT, ↓bX v1, ↓bLI v2, ↓bLI v3, ↓bLS v4]
  · have q3' : ((hf w' : Int) != W) = true := by simp [q3]
    refine ⟨fun hd => absurd hd.2.2.2.1 q3, fun _ => ⟨B1, ?_, v5⟩⟩
    simp only [↓ifDn q1, ↓ifDn q2, ↓bX k1, ↓bI, ↓bLI a0, q3', if_true, ↓ifT, ↓bX v1, ↓bLI v2, ↓bLI v3, ↓bLS v4]

end Go.Proofs.Ytncfdkmhpnopiaa
