/- The document's doubles, cuts, levels and pyramids (skylightref51). -/
import Derived.Test.YtncfdkmhpnopiaaMipR
set_option linter.unusedVariables false
set_option linter.unusedSimpArgs false
namespace Go.Proofs.Ytncfdkmhpnopiaa
open Go Go.Ax

theorem tab_snoc {w h i : Nat} {f : Nat → Nat → Px} (hi : i < w * h) : (tab w h f).take (i + 1) = (tab w h f).take i ++ [f (i % w) (i / w)] := take_snoc (tab_get hi)

theorem atP_in {W H : Nat} {l : List Px} {x y : Nat} (hx : x ≤ W - 1) (hy : y ≤ H - 1) : atP W H l x y = gP l (y * W + x) := by
  unfold atP; rw [Nat.min_eq_left hy, Nat.min_eq_left hx]

theorem rcut_loop {W H x y w h : Nat} (bW : 1 ≤ W ∧ W ≤ 256) (bH : 1 ≤ H ∧ H ≤ 256) (hw : 1 ≤ w) (hh : 1 ≤ h) (hx : x + w ≤ W) (hy : y + h ≤ H) {p : Option Addr} {cp : Nat} {l : List Px} (hl : l.length = W * H) {x5 x10 x12 : Nat} {B : AMem} (h5 : IsPic B x5 (W : Int) (H : Int) p cp l) (h10 : Cells B x10 [.int .i64 0, .int .i64 0, .slice none 0 0]) :
    ∀ (d i : Nat) (M : AMem), i + d = w * h → Out B M x12 (w : Int) (h : Int) ((cutL W x y w h l).take i) →
      ∃ M' o oc, P18_16 LL (x : Int) (y : Int) (w : Int) (h : Int) x5 x10 x12 (i : Int) M = some (.tuple #[picV (w : Int) (h : Int) o (w * h) oc, .bool true], M') ∧ RdL M' encP o (w * h) (cutL W x y w h l) ∧ Same B M' [x10] := by
  have hlen := cutL_length W x y w h l
  have hwh : w * h ≤ 256 * 256 := Nat.mul_le_mul (by omega) (by omega)
  have hwh1 : 1 ≤ w * h := Nat.mul_pos hw hh
  have hm : IntKind.wrap .i64 ((w : Int) * (h : Int)) = ((w * h : Nat) : Int) := by
    rw [← Int.natCast_mul]; exact w64 (by omega)
  intro d
  induction d with
  | zero =>
    intro i M hi ho
    have hiw : i = w * h := by omega
    rw [hiw, List.take_of_length_le (by rw [hlen]; exact Nat.le_refl _)] at ho
    obtain ⟨o, oc, o1, o2, o3⟩ := ho.pic (by omega)
    rw [hlen] at o1 o2
    obtain ⟨e0, e1, e2⟩ := picV_ld o1.rd
    have h10' := h10.same ho.same (by simp)
    obtain ⟨M1, w1, w2, w3, w4⟩ := h10'.wr (o := 0) (vs := [.int .i64 (w : Int), .int .i64 (h : Int), .slice o (w * h) oc]) (by simp)
    have w2' : Cells M1 x10 [.int .i64 (w : Int), .int .i64 (h : Int), .slice o (w * h) oc] := by simpa [wrL] using w2
    obtain ⟨f0, f1, f2⟩ := picV_ld w2'.rd
    have h10l := h10.lt
    refine ⟨M1, o, oc, ?_, o2.same w3 (fun z hz => by have := (o3 z hz).1; simp; omega), (ho.same.trans w3).mono (by simp)⟩
    rw [P18_16_eq LL L_loop, hm, ifDn (by omega), P18_27_eq]
    simp only [↓bLI e0, ↓bLI e1, ↓bLS e2, ↓bX w1, ↓bLI f0, ↓bLI f1, ↓bLS f2]
    rfl
  | succ d ih =>
    intro i M hi ho
    have hiw : i < w * h := by omega
    have h5' := h5.st ho.same
    obtain ⟨a0, a1, a2⟩ := picV_ld h5'.hd
    have X0 : i % w < w := Nat.mod_lt _ (by omega)
    have Y0 : i / w < h := (Nat.div_lt_iff_lt_mul (by omega)).2 (by rw [Nat.mul_comm]; exact hiw)
    obtain ⟨M1, e1, s1⟩ := at_spec (x := x + i % w) (y := y + i / w) (cp := cp) bW bH (by omega) (by omega) hl h5'.px
    unfold picV at e1
    rw [atP_in (by omega) (by omega)] at e1
    have htl : ((cutL W x y w h l).take i).length ≤ 65536 := by rw [List.length_take, hlen]; omega
    obtain ⟨o, oc, M9, M10, t1, t2, t3, t4, t5⟩ := out_app (ho.st s1) htl (gP l ((y + i / w) * W + (x + i % w)))
    obtain ⟨po, pc, hx12, _, _⟩ := ho.ex
    have t1' : M.ld x12 2 = some (.slice o ((cutL W x y w h l).take i).length oc) := by
      rw [← t1, hx12.ld, (hx12.same s1 (by simp)).ld]
    rw [show (cutL W x y w h l).take i ++ [gP l ((y + i / w) * W + (x + i % w))] = (cutL W x y w h l).take (i + 1) from (tab_snoc hiw).symm] at t5
    obtain ⟨M', o', oc', r1, r2, r3⟩ := ih (i + 1) M10 (by omega) t5
    refine ⟨M', o', oc', ?_, r2, r3⟩
    have hw0 : ¬ ((w : Int) = 0) := by omega
    have m1 : Int.tmod (i : Int) (w : Int) = ((i % w : Nat) : Int) := (Int.ofNat_tmod _ _).symm
    have m2 : IntKind.wrap .i64 (Int.tdiv (i : Int) (w : Int)) = ((i / w : Nat) : Int) := by
      rw [show Int.tdiv (i : Int) (w : Int) = ((i / w : Nat) : Int) from (Int.ofNat_tdiv _ _).symm]
      generalize i / w = q at Y0
      exact w64 (by omega)
    have m3 : IntKind.wrap .i64 ((x : Int) + ((i % w : Nat) : Int)) = ((x + i % w : Nat) : Int) := by
      generalize i % w = q at X0
      rw [w64 (by omega)]; rfl
    have m4 : IntKind.wrap .i64 ((y : Int) + ((i / w : Nat) : Int)) = ((y + i / w : Nat) : Int) := by
      generalize i / w = q at Y0
      rw [w64 (by omega)]; rfl
    have hwi : IntKind.wrap .i64 ((i : Int) + 1) = ((i + 1 : Nat) : Int) := by rw [w64 (by omega)]; rfl
    have hck : ∀ pairs, chkOk pairs [(1, x12)] [(14, (M1, M1 ++ [AObj.cells [.int .i64 (gP l ((y + i / w) * W + (x + i % w))).r, .int .i64 (gP l ((y + i / w) * W + (x + i % w))).g, .int .i64 (gP l ((y + i / w) * W + (x + i % w))).b] ⟨false, 0⟩])), (13, (M, M1))] = true := fun pairs => by
      refine chk_all fun z hz e he => ?_
      simp only [List.mem_singleton] at hz
      subst hz
      have hlt := hx12.lt
      simp only [List.mem_cons, List.not_mem_nil, or_false] at he
      rcases he with rfl | rfl
      · exact ver_same (same_app M1 _) (show x12 < M1.length by have := s1.le; omega) (by simp)
      · exact ver_same s1 hlt (by simp)
    rw [P18_16_eq LL L_loop, hm, ifD (show (i : Int) < ((w * h : Nat) : Int) by omega)]
    simp only [↓bLS t1', ↓bLI a0, ↓bLI a1, ↓bLS a2, ↓if_neg hw0, m1, m2, m3, m4, ↓bX e1, ↓bA3', ↓bI0, ↓bI1, ↓bI2, ↓bX t2, t3, ↓bX t4, ↓if_pos (hck _), P18_26_eq, hwi]
    exact r1

theorem rcut_spec {W H x y w h : Int} {p : Option Addr} {cp : Nat} {l : List Px} (hl : l.length ≤ 9223372036854775807) {M : AMem} (hp : RdL M encP p l.length l) :
    (CFit W H l x y w h → ∃ M' o oc, LL.call 18 [picV W H p l.length cp, .int .i64 x, .int .i64 y, .int .i64 w, .int .i64 h] M = some (.tuple #[picV w h o (w.toNat * h.toNat) oc, .bool true], M') ∧ RdL M' encP o (w.toNat * h.toNat) (cutL W.toNat x.toNat y.toNat w.toNat h.toNat l) ∧ Same M M' []) ∧
    (¬ CFit W H l x y w h → ∃ M', LL.call 18 [picV W H p l.length cp, .int .i64 x, .int .i64 y, .int .i64 w, .int .i64 h] M = some (.tuple #[picV 0 0 none 0 0, .bool false], M') ∧ Same M M' []) := by
  rw [L_call18]
  unfold picV
  rw [E18]
  have g0 := cells_new M [.int .i64 W, .int .i64 H, .slice p l.length cp] 0
  have s0 := same_app M [AObj.cells [.int .i64 W, .int .i64 H, .slice p l.length cp] ⟨false, 0⟩]
  have n0 : (M ++ [AObj.cells [.int .i64 W, .int .i64 H, .slice p l.length cp] ⟨false, 0⟩]).length = M.length + 1 := by simp
  generalize hM0 : M ++ [AObj.cells [.int .i64 W, .int .i64 H, .slice p l.length cp] ⟨false, 0⟩] = M0 at g0 s0 n0
  have g1 := cells_new M0 [.int .i64 0, .int .i64 0, .slice none 0 0] 0
  have s1 := same_app M0 [AObj.cells [.int .i64 0, .int .i64 0, .slice none 0 0] ⟨false, 0⟩]
  have n1 : (M0 ++ [AObj.cells [.int .i64 0, .int .i64 0, .slice none 0 0] ⟨false, 0⟩]).length = M0.length + 1 := by simp
  generalize hM1 : M0 ++ [AObj.cells [.int .i64 0, .int .i64 0, .slice none 0 0] ⟨false, 0⟩] = M1 at g1 s1 n1
  have hs : Same M M1 [] := (s0.trans s1).mono (by simp)
  have a : IsPic M1 M.length W H p cp l := ⟨(g0.same s1 (by simp)).rd, hp.same hs (by simp)⟩
  obtain ⟨a0, a1, a2⟩ := picV_ld a.hd
  obtain ⟨M2, e2, s2⟩ := right41_spec (W := W) (H := H) (c := cp) hl a.px
  unfold picV at e2
  have hs2 : Same M M2 [] := (hs.trans s2).mono (by simp)
  have l2 := s2.le
  have a' := a.st s2
  obtain ⟨b0, b1, _⟩ := picV_ld a'.hd
  obtain ⟨M4, w1, w2, w3, w4⟩ := (g1.same s2 (by simp)).wr (o := 0) (vs := [.int .i64 0, .int .i64 0, .slice none 0 0]) (by simp)
  have w2' : Cells M4 M0.length [.int .i64 0, .int .i64 0, .slice none 0 0] := by simpa [wrL] using w2
  obtain ⟨c0, c1, c2⟩ := picV_ld w2'.rd
  have hs4 : Same M M4 [] := (hs2.trans w3).mono' (by simp; omega)
  simp only [↓bLI a0, ↓bLI a1, ↓bLS a2, ↓bX e2, ↓bB]
  by_cases hf' : PFit W H l
  · have hft : decide (PFit W H l) = true := decide_eq_true hf'
    have bW := hf'.2.1
    have bH := hf'.2.2.1
    simp only [hft, ↓ifNT]
    by_cases q2 : (if h < w then h else w) < 1
    · refine ⟨fun h => absurd h.2.2.1 (by split at q2 <;> omega), fun _ => ⟨M4, ?_, hs4⟩⟩
      simp only [↓ifD q2, ↓bX w1, ↓bLI c0, ↓bLI c1, ↓bLS c2]
    by_cases q1 : (if y < x then y else x) < 0
    · refine ⟨fun h => absurd h.2.1 (by split at q1 <;> omega), fun _ => ⟨M4, ?_, hs4⟩⟩
      simp only [↓ifDn q2, ↓ifD q1, ↓bX w1, ↓bLI c0, ↓bLI c1, ↓bLS c2]
    by_cases q3 : w > W
    · refine ⟨fun h => absurd h.2.2.2.1 (by omega), fun _ => ⟨M4, ?_, hs4⟩⟩
      simp only [↓ifDn q1, ↓ifDn q2, ↓bLI b0, ↓ifD q3, ↓bX w1, ↓bLI c0, ↓bLI c1, ↓bLS c2]
    by_cases q4 : h > H
    · refine ⟨fun h => absurd h.2.2.2.2.1 (by omega), fun _ => ⟨M4, ?_, hs4⟩⟩
      simp only [↓ifDn q1, ↓ifDn q2, ↓bLI b0, ↓ifDn q3, ↓bLI b1, ↓ifD q4, ↓bX w1, ↓bLI c0, ↓bLI c1, ↓bLS c2]
    have r1 : 0 ≤ x ∧ 0 ≤ y := by split at q1 <;> omega
    have r2 : 1 ≤ w ∧ 1 ≤ h := by split at q2 <;> omega
    have u1 : IntKind.wrap .i64 (W - w) = W - w := w64 (by omega)
    have u2 : IntKind.wrap .i64 (H - h) = H - h := w64 (by omega)
    by_cases q5 : x > W - w
    · refine ⟨fun h => absurd h.2.2.2.2.2.1 (by omega), fun _ => ⟨M4, ?_, hs4⟩⟩
      simp only [↓ifDn q1, ↓ifDn q2, ↓bLI b0, ↓ifDn q3, ↓bLI b1, ↓ifDn q4, u1, ↓ifD q5, ↓bX w1, ↓bLI c0, ↓bLI c1, ↓bLS c2]
    by_cases q6 : y > H - h
    · refine ⟨fun h => absurd h.2.2.2.2.2.2 (by omega), fun _ => ⟨M4, ?_, hs4⟩⟩
      simp only [↓ifDn q1, ↓ifDn q2, ↓bLI b0, ↓ifDn q3, ↓bLI b1, ↓ifDn q4, u1, ↓ifDn q5, u2, ↓ifD q6, ↓bX w1, ↓bLI c0, ↓bLI c1, ↓bLS c2]
    have hc : CFit W H l x y w h := ⟨hf', r1, r2, by omega, by omega, by omega, by omega⟩
    refine ⟨fun _ => ?_, fun hn => absurd hc hn⟩
    obtain ⟨f1, f2, f3, f4⟩ := hf'
    obtain ⟨W', rfl⟩ : ∃ n : Nat, W = (n : Int) := ⟨W.toNat, by omega⟩
    obtain ⟨H', rfl⟩ : ∃ n : Nat, H = (n : Int) := ⟨H.toNat, by omega⟩
    obtain ⟨x', rfl⟩ : ∃ n : Nat, x = (n : Int) := ⟨x.toNat, by omega⟩
    obtain ⟨y', rfl⟩ : ∃ n : Nat, y = (n : Int) := ⟨y.toNat, by omega⟩
    obtain ⟨w', rfl⟩ : ∃ n : Nat, w = (n : Int) := ⟨w.toNat, by omega⟩
    obtain ⟨h', rfl⟩ : ∃ n : Nat, h = (n : Int) := ⟨h.toNat, by omega⟩
    simp only [Int.toNat_natCast]
    have hlen : l.length = W' * H' := by rw [← Int.natCast_mul] at f4; omega
    obtain ⟨M5, y1, y2, y3, y4⟩ := wr_new M2 [.int .i64 0, .int .i64 0, .slice none 0 0] [.int .i64 (w' : Int), .int .i64 (h' : Int), .slice none 0 0] 0 rfl
    have ho : Out M2 M5 M2.length (w' : Int) (h' : Int) ((cutL W' x' y' w' h' l).take 0) := ⟨⟨none, 0, by simpa using y2, by simpa using Slc.nil M5 3 0, by simp⟩, y3, Nat.le_refl _⟩
    obtain ⟨M', o, oc, t1, t2, t3⟩ := rcut_loop (W := W') (H := H') (x := x') (y := y') (w := w') (h := h') (by omega) (by omega) (by omega) (by omega) (by omega) (by omega) hlen a' (g1.same s2 (by simp)) (w' * h') 0 M5 (by omega) ho
    refine ⟨M', o, oc, ?_, t2, (hs2.trans t3).mono' (by simp; omega)⟩
    simp only [↓ifDn q1, ↓ifDn q2, ↓bLI b0, ↓ifDn q3, ↓bLI b1, ↓ifDn q4, u1, ↓ifDn q5, u2, ↓ifDn q6, ↓bX y1]
    exact t1
  · have hft : decide (PFit W H l) = false := decide_eq_false hf'
    refine ⟨fun h => absurd h.1 hf', fun _ => ⟨M4, ?_, hs4⟩⟩
    simp only [hft, ↓ifNF, ↓bX w1, ↓bLI c0, ↓bLI c1, ↓bLS c2]

theorem rdbl_loop {W H w h : Nat} (bw : 1 ≤ w ∧ w ≤ 256) (bh : 1 ≤ h ∧ h ≤ 256) (eW : hf w = W) (eH : hf h = H) {p : Option Addr} {cp : Nat} {l : List Px} (hl : l.length = W * H) {x3 x6 x8 : Nat} {B : AMem} (h3 : IsPic B x3 (W : Int) (H : Int) p cp l) (h6 : Cells B x6 [.int .i64 0, .int .i64 0, .slice none 0 0]) :
    ∀ (d i : Nat) (M : AMem), i + d = w * h → Out B M x8 (w : Int) (h : Int) ((dblL W w h l).take i) →
      ∃ M' o oc, P17_16 LL (w : Int) (h : Int) x3 x6 x8 (i : Int) M = some (.tuple #[picV (w : Int) (h : Int) o (w * h) oc, .bool true], M') ∧ RdL M' encP o (w * h) (dblL W w h l) ∧ Same B M' [x6] := by
  have hlen := dblL_length W w h l
  have hwh : w * h ≤ 256 * 256 := Nat.mul_le_mul bw.2 bh.2
  have hwh1 : 1 ≤ w * h := Nat.mul_pos bw.1 bh.1
  have bW : 1 ≤ W ∧ W ≤ 256 := by unfold hf at eW; omega
  have bH : 1 ≤ H ∧ H ≤ 256 := by unfold hf at eH; omega
  have hm : IntKind.wrap .i64 ((w : Int) * (h : Int)) = ((w * h : Nat) : Int) := by
    rw [← Int.natCast_mul]; exact w64 (by omega)
  intro d
  induction d with
  | zero =>
    intro i M hi ho
    have hiw : i = w * h := by omega
    rw [hiw, List.take_of_length_le (by rw [hlen]; exact Nat.le_refl _)] at ho
    obtain ⟨o, oc, o1, o2, o3⟩ := ho.pic (by omega)
    rw [hlen] at o1 o2
    obtain ⟨e0, e1, e2⟩ := picV_ld o1.rd
    have h6' := h6.same ho.same (by simp)
    obtain ⟨M1, w1, w2, w3, w4⟩ := h6'.wr (o := 0) (vs := [.int .i64 (w : Int), .int .i64 (h : Int), .slice o (w * h) oc]) (by simp)
    have w2' : Cells M1 x6 [.int .i64 (w : Int), .int .i64 (h : Int), .slice o (w * h) oc] := by simpa [wrL] using w2
    obtain ⟨f0, f1, f2⟩ := picV_ld w2'.rd
    have h6l := h6.lt
    refine ⟨M1, o, oc, ?_, o2.same w3 (fun z hz => by have := (o3 z hz).1; simp; omega), (ho.same.trans w3).mono (by simp)⟩
    rw [P17_16_eq LL L_loop, hm, ifDn (by omega), P17_27_eq]
    simp only [↓bLI e0, ↓bLI e1, ↓bLS e2, ↓bX w1, ↓bLI f0, ↓bLI f1, ↓bLS f2]
    rfl
  | succ d ih =>
    intro i M hi ho
    have hiw : i < w * h := by omega
    have h3' := h3.st ho.same
    obtain ⟨a0, a1, a2⟩ := picV_ld h3'.hd
    have X0 : i % w < w := Nat.mod_lt _ (by omega)
    have Y0 : i / w < h := (Nat.div_lt_iff_lt_mul (by omega)).2 (by rw [Nat.mul_comm]; exact hiw)
    have hYH : i / w / 2 ≤ H - 1 := by
      generalize i / w = q at Y0 ⊢
      unfold hf at eH; omega
    have hXW : i % w / 2 ≤ W - 1 := by
      generalize i % w = q at X0 ⊢
      unfold hf at eW; omega
    obtain ⟨M1, e1, s1⟩ := at_spec (x := i % w / 2) (y := i / w / 2) (cp := cp) bW bH (by omega) (by omega) hl h3'.px
    unfold picV at e1
    rw [atP_in hXW hYH] at e1
    have htl : ((dblL W w h l).take i).length ≤ 65536 := by rw [List.length_take, hlen]; omega
    obtain ⟨o, oc, M9, M10, t1, t2, t3, t4, t5⟩ := out_app (ho.st s1) htl (gP l (i / w / 2 * W + i % w / 2))
    obtain ⟨po, pc, hx8, _, _⟩ := ho.ex
    have t1' : M.ld x8 2 = some (.slice o ((dblL W w h l).take i).length oc) := by
      rw [← t1, hx8.ld, (hx8.same s1 (by simp)).ld]
    rw [show (dblL W w h l).take i ++ [gP l (i / w / 2 * W + i % w / 2)] = (dblL W w h l).take (i + 1) from (tab_snoc hiw).symm] at t5
    obtain ⟨M', o', oc', r1, r2, r3⟩ := ih (i + 1) M10 (by omega) t5
    refine ⟨M', o', oc', ?_, r2, r3⟩
    have hw0 : ¬ ((w : Int) = 0) := by omega
    have m1 : IntKind.wrap .i64 (Int.tdiv (Int.tmod (i : Int) (w : Int)) 2) = ((i % w / 2 : Nat) : Int) := by
      rw [show Int.tmod (i : Int) (w : Int) = ((i % w : Nat) : Int) from (Int.ofNat_tmod _ _).symm, show Int.tdiv ((i % w : Nat) : Int) 2 = ((i % w / 2 : Nat) : Int) from (Int.ofNat_tdiv _ 2).symm]
      generalize i % w / 2 = q at hXW
      exact w64 (by omega)
    have m2 : IntKind.wrap .i64 (Int.tdiv (IntKind.wrap .i64 (Int.tdiv (i : Int) (w : Int))) 2) = ((i / w / 2 : Nat) : Int) := by
      rw [show Int.tdiv (i : Int) (w : Int) = ((i / w : Nat) : Int) from (Int.ofNat_tdiv _ _).symm]
      generalize i / w = q at Y0 hYH ⊢
      rw [w64 (n := (q : Int)) (by omega), show Int.tdiv (q : Int) 2 = ((q / 2 : Nat) : Int) from (Int.ofNat_tdiv _ 2).symm]
      exact w64 (by omega)
    have hwi : IntKind.wrap .i64 ((i : Int) + 1) = ((i + 1 : Nat) : Int) := by rw [w64 (by omega)]; rfl
    have hck : ∀ pairs, chkOk pairs [(1, x8)] [(12, (M1, M1 ++ [AObj.cells [.int .i64 (gP l (i / w / 2 * W + i % w / 2)).r, .int .i64 (gP l (i / w / 2 * W + i % w / 2)).g, .int .i64 (gP l (i / w / 2 * W + i % w / 2)).b] ⟨false, 0⟩])), (11, (M, M1))] = true := fun pairs => by
      refine chk_all fun z hz e he => ?_
      simp only [List.mem_singleton] at hz
      subst hz
      have hlt := hx8.lt
      simp only [List.mem_cons, List.not_mem_nil, or_false] at he
      rcases he with rfl | rfl
      · exact ver_same (same_app M1 _) (show x8 < M1.length by have := s1.le; omega) (by simp)
      · exact ver_same s1 hlt (by simp)
    rw [P17_16_eq LL L_loop, hm, ifD (show (i : Int) < ((w * h : Nat) : Int) by omega)]
    simp only [↓bLS t1', ↓bLI a0, ↓bLI a1, ↓bLS a2, ↓if_neg hw0, m1, m2, ↓bX e1, ↓bA3', ↓bI0, ↓bI1, ↓bI2, ↓bX t2, t3, ↓bX t4, ↓if_pos (hck _), P17_26_eq, hwi]
    exact r1

theorem rdouble_spec {W H w h : Int} {p : Option Addr} {cp : Nat} {l : List Px} (hl : l.length ≤ 9223372036854775807) {M : AMem} (hp : RdL M encP p l.length l) :
    (DFit W H l w h → ∃ M' o oc, LL.call 17 [picV W H p l.length cp, .int .i64 w, .int .i64 h] M = some (.tuple #[picV w h o (w.toNat * h.toNat) oc, .bool true], M') ∧ RdL M' encP o (w.toNat * h.toNat) (dblL W.toNat w.toNat h.toNat l) ∧ Same M M' []) ∧
    (¬ DFit W H l w h → ∃ M', LL.call 17 [picV W H p l.length cp, .int .i64 w, .int .i64 h] M = some (.tuple #[picV 0 0 none 0 0, .bool false], M') ∧ Same M M' []) := by
  rw [L_call17]
  unfold picV
  rw [E17]
  have g0 := cells_new M [.int .i64 W, .int .i64 H, .slice p l.length cp] 0
  have s0 := same_app M [AObj.cells [.int .i64 W, .int .i64 H, .slice p l.length cp] ⟨false, 0⟩]
  have n0 : (M ++ [AObj.cells [.int .i64 W, .int .i64 H, .slice p l.length cp] ⟨false, 0⟩]).length = M.length + 1 := by simp
  generalize hM0 : M ++ [AObj.cells [.int .i64 W, .int .i64 H, .slice p l.length cp] ⟨false, 0⟩] = M0 at g0 s0 n0
  have g1 := cells_new M0 [.int .i64 0, .int .i64 0, .slice none 0 0] 0
  have s1 := same_app M0 [AObj.cells [.int .i64 0, .int .i64 0, .slice none 0 0] ⟨false, 0⟩]
  have n1 : (M0 ++ [AObj.cells [.int .i64 0, .int .i64 0, .slice none 0 0] ⟨false, 0⟩]).length = M0.length + 1 := by simp
  generalize hM1 : M0 ++ [AObj.cells [.int .i64 0, .int .i64 0, .slice none 0 0] ⟨false, 0⟩] = M1 at g1 s1 n1
  have hs : Same M M1 [] := (s0.trans s1).mono (by simp)
  have a : IsPic M1 M.length W H p cp l := ⟨(g0.same s1 (by simp)).rd, hp.same hs (by simp)⟩
  obtain ⟨a0, a1, a2⟩ := picV_ld a.hd
  obtain ⟨M2, e2, s2⟩ := right41_spec (W := W) (H := H) (c := cp) hl a.px
  unfold picV at e2
  have hs2 : Same M M2 [] := (hs.trans s2).mono (by simp)
  have l2 := s2.le
  have a' := a.st s2
  obtain ⟨b0, b1, _⟩ := picV_ld a'.hd
  obtain ⟨M4, w1, w2, w3, w4⟩ := (g1.same s2 (by simp)).wr (o := 0) (vs := [.int .i64 0, .int .i64 0, .slice none 0 0]) (by simp)
  have w2' : Cells M4 M0.length [.int .i64 0, .int .i64 0, .slice none 0 0] := by simpa [wrL] using w2
  obtain ⟨c0, c1, c2⟩ := picV_ld w2'.rd
  have hs4 : Same M M4 [] := (hs2.trans w3).mono' (by simp; omega)
  simp only [↓bLI a0, ↓bLI a1, ↓bLS a2, ↓bX e2, ↓bB]
  by_cases hf' : PFit W H l
  · have hft : decide (PFit W H l) = true := decide_eq_true hf'
    simp only [hft, ↓ifNT]
    by_cases q1 : w < 1
    · refine ⟨fun h => absurd h.2.1 (by omega), fun _ => ⟨M4, ?_, hs4⟩⟩
      simp only [↓ifD q1, ↓bX w1, ↓bLI c0, ↓bLI c1, ↓bLS c2]
    by_cases q2 : h < 1
    · refine ⟨fun h => absurd h.2.2.1 (by omega), fun _ => ⟨M4, ?_, hs4⟩⟩
      simp only [↓ifDn q1, ↓ifD q2, ↓bX w1, ↓bLI c0, ↓bLI c1, ↓bLS c2]
    by_cases q3 : w > 256
    · refine ⟨fun h => absurd h.2.1 (by omega), fun _ => ⟨M4, ?_, hs4⟩⟩
      simp only [↓ifDn q1, ↓ifDn q2, ↓ifD q3, ↓bX w1, ↓bLI c0, ↓bLI c1, ↓bLS c2]
    by_cases q4 : h > 256
    · refine ⟨fun h => absurd h.2.2.1 (by omega), fun _ => ⟨M4, ?_, hs4⟩⟩
      simp only [↓ifDn q1, ↓ifDn q2, ↓ifDn q3, ↓ifD q4, ↓bX w1, ↓bLI c0, ↓bLI c1, ↓bLS c2]
    obtain ⟨w', rfl⟩ : ∃ n : Nat, w = (n : Int) := ⟨w.toNat, by omega⟩
    obtain ⟨h', rfl⟩ : ∃ n : Nat, h = (n : Int) := ⟨h.toNat, by omega⟩
    have k1 := rhf_spec (n := w') (by omega)
    have k2 := rhf_spec (n := h') (by omega)
    simp only [Int.toNat_natCast, DFit]
    by_cases q5 : (hf w' : Int) = W
    · have q5' : ((hf w' : Int) != W) = false := by simp [q5]
      by_cases q6 : (hf h' : Int) = H
      · have q6' : ((hf h' : Int) != H) = false := by simp [q6]
        refine ⟨fun _ => ?_, fun hn => absurd ⟨hf', by omega, by omega, q5, q6⟩ hn⟩
        subst q5
        subst q6
        have hlen : l.length = hf w' * hf h' := by have := hf'.2.2.2; rw [← Int.natCast_mul] at this; omega
        obtain ⟨M5, y1, y2, y3, y4⟩ := wr_new M2 [.int .i64 0, .int .i64 0, .slice none 0 0] [.int .i64 (w' : Int), .int .i64 (h' : Int), .slice none 0 0] 0 rfl
        have ho : Out M2 M5 M2.length (w' : Int) (h' : Int) ((dblL (hf w') w' h' l).take 0) := ⟨⟨none, 0, by simpa using y2, by simpa using Slc.nil M5 3 0, by simp⟩, y3, Nat.le_refl _⟩
        obtain ⟨M', o, oc, t1, t2, t3⟩ := rdbl_loop (x6 := M0.length) (by omega) (by omega) rfl rfl hlen a' (g1.same s2 (by simp)) (w' * h') 0 M5 (by omega) ho
        refine ⟨M', o, oc, ?_, by simpa using t2, (hs2.trans t3).mono' (by simp; omega)⟩
        simp only [↓ifDn q1, ↓ifDn q2, ↓ifDn q3, ↓ifDn q4, ↓bX k1, ↓bI, ↓bLI b0, q5', ↓ifF, ↓bX k2, ↓bLI b1, q6', ↓bX y1]
        exact t1
      · have q6' : ((hf h' : Int) != H) = true := by simp [q6]
        refine ⟨fun hd => absurd hd.2.2.2.2 q6, fun _ => ⟨M4, ?_, hs4⟩⟩
        simp only [↓ifDn q1, ↓ifDn q2, ↓ifDn q3, ↓ifDn q4, ↓bX k1, ↓bI, ↓bLI b0, q5', ↓ifF, ↓bX k2, ↓bLI b1, q6', if_true, ↓ifT, ↓bX w1, ↓bLI c0, ↓bLI c1, ↓bLS c2]
    · have q5' : ((hf w' : Int) != W) = true := by simp [q5]
      refine ⟨fun hd => absurd hd.2.2.2.1 q5, fun _ => ⟨M4, ?_, hs4⟩⟩
      simp only [↓ifDn q1, ↓ifDn q2, ↓ifDn q3, ↓ifDn q4, ↓bX k1, ↓bI, ↓bLI b0, q5', if_true, ↓ifT, ↓bX w1, ↓bLI c0, ↓bLI c1, ↓bLS c2]
  · have hft : decide (PFit W H l) = false := decide_eq_false hf'
    refine ⟨fun h => absurd h.1 hf', fun _ => ⟨M4, ?_, hs4⟩⟩
    simp only [hft, ↓ifNF, ↓bX w1, ↓bLI c0, ↓bLI c1, ↓bLS c2]

theorem rlev_nat : ∀ (n W H : Nat), W + H ≤ n → (1 ≤ W ∧ W ≤ 256) → (1 ≤ H ∧ H ≤ 256) → ∃ M', LL.call 20 [.int .i64 (W : Int), .int .i64 (H : Int)] [] = some (.int .i64 (lev W H : Int), M') := by
  intro n
  induction n with
  | zero => intro W H hn hW; omega
  | succ n ih =>
    intro W H hn hW hH
    rw [L_call20, E20]
    have q1 : ¬ (W : Int) < 1 := by omega
    have q2 : ¬ (H : Int) < 1 := by omega
    have q3 : ¬ (W : Int) > 256 := by omega
    have q4 : ¬ (H : Int) > 256 := by omega
    have hm : IntKind.wrap .i64 ((W : Int) * (H : Int)) = ((W * H : Nat) : Int) := by
      have := (Nat.mul_le_mul hW.2 hH.2 : W * H ≤ 256 * 256)
      rw [← Int.natCast_mul]; exact w64 (by omega)
    simp only [↓ifDn q1, ↓ifDn q2, ↓ifDn q3, ↓ifDn q4, hm]
    by_cases hm1 : 1 < W ∨ 1 < H
    · have hne : ((((W * H : Nat) : Int)) == 1) = false := beq_eq_false_iff_ne.2 (by
        rcases hm1 with h | h
        · have := Nat.mul_le_mul (show 2 ≤ W by omega) hH.1; omega
        · have := Nat.mul_le_mul hW.1 (show 2 ≤ H by omega); omega)
      obtain ⟨M', e⟩ := ih (hf W) (hf H) (by unfold hf; omega) (by unfold hf; omega) (by unfold hf; omega)
      have hb : lev (hf W) (hf H) ≤ 9 := by
        rw [lev_blen _ _ (by unfold hf; omega) (by unfold hf; omega)]
        have := blen_le (n := max (hf W) (hf H) - 1) (k := 8) (by unfold hf; omega)
        omega
      have e2 : IntKind.wrap .i64 (1 + (lev (hf W) (hf H) : Int)) = (lev W H : Int) := by
        rw [lev_eq W H, if_pos hm1, w64 (by omega)]; rfl
      refine ⟨[], ?_⟩
      simp only [hne, ↓ifF, ↓bX (rhf_spec hW.2), ↓bI, ↓bX (rhf_spec hH.2), ↓bX e, e2]
    · obtain rfl : W = 1 := by omega
      obtain rfl : H = 1 := by omega
      refine ⟨[], ?_⟩
      have hl : lev 1 1 = 1 := by rw [lev_eq, if_neg (by omega)]
      rw [hl]
      rfl

theorem rlevels_spec (w h : Int) : ∃ M', LL.call 20 [.int .i64 w, .int .i64 h] [] = some (.int .i64 (if (1 ≤ w ∧ w ≤ 256) ∧ (1 ≤ h ∧ h ≤ 256) then (lev w.toNat h.toNat : Int) else 0), M') := by
  by_cases hc : (1 ≤ w ∧ w ≤ 256) ∧ (1 ≤ h ∧ h ≤ 256)
  · rw [if_pos hc]
    obtain ⟨w', rfl⟩ : ∃ n : Nat, w = (n : Int) := ⟨w.toNat, by omega⟩
    obtain ⟨h', rfl⟩ : ∃ n : Nat, h = (n : Int) := ⟨h.toNat, by omega⟩
    simp only [Int.toNat_natCast]
    exact rlev_nat (w' + h') w' h' (Nat.le_refl _) (by omega) (by omega)
  · rw [if_neg hc, L_call20, E20]
    refine ⟨[], ?_⟩
    by_cases q1 : w < 1
    · simp only [↓ifD q1]
    by_cases q2 : h < 1
    · simp only [↓ifDn q1, ↓ifD q2]
    by_cases q3 : w > 256
    · simp only [↓ifDn q1, ↓ifDn q2, ↓ifD q3]
    by_cases q4 : h > 256
    · simp only [↓ifDn q1, ↓ifDn q2, ↓ifDn q3, ↓ifD q4]
    exact absurd ⟨by omega, by omega⟩ hc

theorem rpyr_nat : ∀ (n W H : Nat), W + H ≤ n → (1 ≤ W ∧ W ≤ 256) → (1 ≤ H ∧ H ≤ 256) → ∀ (p : Option Addr) (cp : Nat) (l : List Px) (M : AMem), l.length = W * H → (∀ x ∈ l, x.fit) → RdL M encP p l.length l →
    ∃ M' o oc A, LL.call 16 [picV (W : Int) (H : Int) p l.length cp] M = some (.slice o (List.length A) oc, M') ∧ Slc M' 3 o A.length oc (A.flatMap encT) ∧ (∀ t ∈ A, RdL M' encP t.p t.l.length t.l ∧ 1 ≤ t.l.length ∧ ∀ b ∈ blk t.p, b ∈ blk p ∨ M.length ≤ b) ∧ A.map Tp.pic = pyr W H l ∧ Same M M' [] := by
  intro n
  induction n with
  | zero => intro W H hn hW; omega
  | succ n ih =>
    intro W H hn hW hH p cp l M hl hfit hp
    rw [L_call16]
    unfold picV
    rw [E16]
    have hl1 : 1 ≤ l.length := by rw [hl]; exact Nat.mul_pos hW.1 hH.1
    have hwh := (Nat.mul_le_mul hW.2 hH.2 : W * H ≤ 256 * 256)
    have hpf : PFit (W : Int) (H : Int) l := ⟨hfit, by omega, by omega, by rw [hl, Int.natCast_mul]⟩
    have g0 := cells_new M [.int .i64 (W : Int), .int .i64 (H : Int), .slice p l.length cp] 0
    have s0 := same_app M [AObj.cells [.int .i64 (W : Int), .int .i64 (H : Int), .slice p l.length cp] ⟨false, 0⟩]
    have n0 : (M ++ [AObj.cells [.int .i64 (W : Int), .int .i64 (H : Int), .slice p l.length cp] ⟨false, 0⟩]).length = M.length + 1 := by simp
    generalize hM0 : M ++ [AObj.cells [.int .i64 (W : Int), .int .i64 (H : Int), .slice p l.length cp] ⟨false, 0⟩] = M0 at g0 s0 n0
    have a : IsPic M0 M.length (W : Int) (H : Int) p cp l := ⟨g0.rd, hp.same s0 (by simp)⟩
    obtain ⟨a0, a1, a2⟩ := picV_ld a.hd
    obtain ⟨M2, e2, s2⟩ := right41_spec (W := (W : Int)) (H := (H : Int)) (c := cp) (by omega) a.px
    unfold picV at e2
    rw [decide_eq_true hpf] at e2
    have l2 := s2.le
    have hs2 : Same M M2 [] := (s0.trans s2).mono (by simp)
    obtain ⟨b0, b1, b2⟩ := picV_ld (a.st s2).hd
    have g3 : Cells (M2 ++ [AObj.cells [.int .i64 (W : Int), .int .i64 (H : Int), .slice p l.length cp] ⟨false, 0⟩]) M2.length (encT ⟨W, H, p, cp, l⟩) := cells_new M2 _ 0
    have s3 := same_app M2 [AObj.cells [.int .i64 (W : Int), .int .i64 (H : Int), .slice p l.length cp] ⟨false, 0⟩]
    have n3 : (M2 ++ [AObj.cells [.int .i64 (W : Int), .int .i64 (H : Int), .slice p l.length cp] ⟨false, 0⟩]).length = M2.length + 1 := by simp
    simp only [↓bLI a0, ↓bLI a1, ↓bLS a2, ↓bX e2, ↓bB, ↓ifNT, ↓bLI b0, ↓bLI b1, ↓bLS b2]
    generalize hM3 : M2 ++ [AObj.cells [.int .i64 (W : Int), .int .i64 (H : Int), .slice p l.length cp] ⟨false, 0⟩] = M3 at g3 s3 n3
    have t3 : Same M M3 [] := (hs2.trans s3).mono (by simp)
    obtain ⟨c0, c1, c2⟩ := picV_ld ((a.st s2).st s3).hd
    have hm : IntKind.wrap .i64 ((W : Int) * (H : Int)) = ((W * H : Nat) : Int) := by
      rw [← Int.natCast_mul]; exact w64 (by omega)
    have hpl := hp.lt (by omega)
    have sl0 : Slc M3 3 (some ⟨M2.length, 0, none⟩) 1 3 (encT ⟨W, H, p, cp, l⟩) := Slc.of g3 rfl
    by_cases hm1 : 1 < W ∨ 1 < H
    · have hgt : ((W * H : Nat) : Int) > 1 := by
        rcases hm1 with h | h
        · have := Nat.mul_le_mul (show 2 ≤ W by omega) hH.1; omega
        · have := Nat.mul_le_mul hW.1 (show 2 ≤ H by omega); omega
      obtain ⟨M4, q, qc, e4, q4, s4, hq⟩ := (rhalf_spec (W := (W : Int)) (H := (H : Int)) (cp := cp) (by omega) ((a.st s2).st s3).px).1 hpf
      unfold picV at e4
      simp only [Int.toNat_natCast] at e4 q4
      have hhl : (halfL W H l).length = hf W * hf H := by simp [halfL]
      rw [← hhl] at e4 q4
      obtain ⟨M5, o, oc, A, e5, o5, p5, m5, s5⟩ := ih (hf W) (hf H) (by unfold hf; omega) (by unfold hf; omega) (by unfold hf; omega) q qc (halfL W H l) M4 hhl (halfL_fit hfit) q4
      unfold picV at e5
      have hA : 1 ≤ A.length ∧ A.length ≤ 9 := by
        rw [← List.length_map (f := Tp.pic), m5, pyr_length, lev_blen _ _ (by unfold hf; omega) (by unfold hf; omega)]
        have := blen_le (n := max (hf W) (hf H) - 1) (k := 8) (by unfold hf; omega)
        omega
      obtain ⟨z, rfl, hz⟩ := o5.pos (by omega)
      have hAl : (A.flatMap encT).length = A.length * 3 := flatMap_length encT_length A
      have hrow := rowOf_some (esz := 3) (n := A.length) (c := oc) (o := 0) hz.rd (by rw [hAl]; omega)
      rw [List.drop_zero, ← hAl, List.take_length] at hrow
      have sl5 := (sl0.same s4 (by simp)).same s5 (by simp)
      obtain ⟨M6, k1, k2, k3, k4⟩ := append_own (bytes := 40) (m := A.length) (new := A.flatMap encT) sl5 hAl (by omega) (by omega)
      have l4 := s4.le
      have l5 := s5.le
      have t5 : Same M M5 [] := ((t3.trans s4).trans s5).mono (by simp)
      refine ⟨M6, some ⟨M5.length, 0, none⟩, 3, ⟨W, H, p, cp, l⟩ :: A, ?_, ?_, ?_, ?_, (t5.trans k3).mono' (by simp <;> omega)⟩
      · simp only [↓bLI c0, ↓bLI c1, hm, ↓ifD hgt, ↓bLS c2, ↓bX e4, ↓bA3, ↓bI0, ↓bI1, ↓bS2, ↓bX e5, ↓bS, ↓bX hrow, k1, P16_18_eq, List.length_cons]
        rw [Nat.add_comm]
      · rw [List.length_cons, List.flatMap_cons, Nat.add_comm]
        exact k2
      · intro t ht
        rcases List.mem_cons.1 ht with rfl | ht
        · exact ⟨(hp.same t5 (by simp)).same k3 (fun b hb => by have := hpl b hb; simp; omega), hl1, fun b hb => .inl hb⟩
        · obtain ⟨u1, u2, u3⟩ := p5 t ht
          have hb' : ∀ b ∈ blk t.p, M3.length ≤ b := fun b hb => by
            rcases u3 b hb with h | h
            · exact hq b h
            · omega
          exact ⟨u1.same k3 (fun b hb => by have := hb' b hb; simp; omega), u2, fun b hb => .inr (by have := hb' b hb; omega)⟩
      · rw [List.map_cons, m5, pyr_eq W H l, if_pos hm1]; rfl
    · have hgt : ¬ ((W * H : Nat) : Int) > 1 := by
        obtain rfl : W = 1 := by omega
        obtain rfl : H = 1 := by omega
        omega
      refine ⟨M3, some ⟨M2.length, 0, none⟩, 3, [⟨W, H, p, cp, l⟩], ?_, by simpa using sl0, ?_, ?_, t3⟩
      · simp only [↓bLI c0, ↓bLI c1, hm, ↓ifDn hgt, P16_18_eq]
        rfl
      · intro t ht
        obtain rfl := List.mem_singleton.1 ht
        exact ⟨hp.same t3 (by simp), hl1, fun b hb => .inl hb⟩
      · rw [pyr_eq W H l, if_neg hm1]; rfl

theorem rpyramid_spec {W H : Int} {p : Option Addr} {cp : Nat} {l : List Px} (hl : l.length ≤ 9223372036854775807) {M : AMem} (hp : RdL M encP p l.length l) :
    (PFit W H l → ∃ M' o oc A, LL.call 16 [picV W H p l.length cp] M = some (.slice o (List.length A) oc, M') ∧ Slc M' 3 o A.length oc (A.flatMap encT) ∧ (∀ t ∈ A, RdL M' encP t.p t.l.length t.l) ∧ A.map Tp.pic = pyr W.toNat H.toNat l ∧ Same M M' []) ∧
    (¬ PFit W H l → ∃ M', LL.call 16 [picV W H p l.length cp] M = some (.slice none 0 0, M') ∧ Same M M' []) := by
  refine ⟨fun hf' => ?_, fun hf' => ?_⟩
  · obtain ⟨f1, f2, f3, f4⟩ := hf'
    obtain ⟨W', rfl⟩ : ∃ n : Nat, W = (n : Int) := ⟨W.toNat, by omega⟩
    obtain ⟨H', rfl⟩ : ∃ n : Nat, H = (n : Int) := ⟨H.toNat, by omega⟩
    have hlen : l.length = W' * H' := by rw [← Int.natCast_mul] at f4; omega
    obtain ⟨M', o, oc, A, h1, h2, h3, h4, h5⟩ := rpyr_nat (W' + H') W' H' (Nat.le_refl _) (by omega) (by omega) p cp l M hlen f1 hp
    exact ⟨M', o, oc, A, h1, h2, fun t ht => (h3 t ht).1, by simpa using h4, h5⟩
  · rw [L_call16]
    unfold picV
    rw [E16]
    have g0 := cells_new M [.int .i64 W, .int .i64 H, .slice p l.length cp] 0
    have s0 := same_app M [AObj.cells [.int .i64 W, .int .i64 H, .slice p l.length cp] ⟨false, 0⟩]
    generalize hM0 : M ++ [AObj.cells [.int .i64 W, .int .i64 H, .slice p l.length cp] ⟨false, 0⟩] = M0 at g0 s0
    have a : IsPic M0 M.length W H p cp l := ⟨g0.rd, hp.same s0 (by simp)⟩
    obtain ⟨a0, a1, a2⟩ := picV_ld a.hd
    obtain ⟨M2, e2, s2⟩ := right41_spec (W := W) (H := H) (c := cp) hl a.px
    unfold picV at e2
    rw [decide_eq_false hf'] at e2
    exact ⟨M2, by simp only [↓bLI a0, ↓bLI a1, ↓bLS a2, ↓bX e2, ↓bB, ↓ifNF], (s0.trans s2).mono (by simp)⟩

end Go.Proofs.Ytncfdkmhpnopiaa
