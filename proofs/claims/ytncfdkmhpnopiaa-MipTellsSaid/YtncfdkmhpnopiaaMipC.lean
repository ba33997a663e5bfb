/- mip.Cut. -/
import Derived.Test.YtncfdkmhpnopiaaMipP
set_option linter.unusedVariables false
set_option linter.unusedSimpArgs false
namespace Go.Proofs.Ytncfdkmhpnopiaa
open Go Go.Ax

theorem flat_drop {l : List Px} {k : Nat} (hk : k ≤ l.length) : (l.flatMap encP).drop (k * 3) = (l.drop k).flatMap encP := by
  have h : ((l.take k).flatMap encP).length = k * 3 := by rw [flatMap_length encP_length]; simp [Nat.min_eq_left hk]
  conv => lhs; rw [← List.take_append_drop k l, List.flatMap_append]
  rw [← h, List.drop_left]

theorem flat_take {l : List Px} {k : Nat} (hk : k ≤ l.length) : (l.flatMap encP).take (k * 3) = (l.take k).flatMap encP := by
  have h : ((l.take k).flatMap encP).length = k * 3 := by rw [flatMap_length encP_length]; simp [Nat.min_eq_left hk]
  conv => lhs; rw [← List.take_append_drop k l, List.flatMap_append]
  rw [← h, List.take_left]

theorem out_row {M0 M : AMem} {b : Nat} {W H : Int} {L ys : List Px} (h : Out M0 M b W H L) (hy : 1 ≤ ys.length) (hl : L.length + ys.length ≤ 65536) :
    ∃ p c M9 M10, M.ld b 2 = some (.slice p L.length c) ∧
      (∀ K : Option Addr → Nat → Nat → AMem → Res, appendK 3 24 p L.length c ys.length (ys.flatMap encP) M K = K (some ⟨M.length, 0, none⟩) (L.length + ys.length) 3 M9) ∧
      AMem.wr M9 b 2 [.slice (some ⟨M.length, 0, none⟩) (L.length + ys.length) 3] = some M10 ∧ Out M0 M10 b W H (L ++ ys) := by
  obtain ⟨p, c, h1, h2, h3⟩ := h.ex
  have hb := h.hb
  obtain ⟨M9, k1, k2, k3⟩ := grn_own (bytes := 24) (new := ys.flatMap encP) (m := ys.length) h2 (flatMap_length encP_length ys) (by omega) (by omega)
  have hlt := h2.lt
  have hMl := h1.lt
  have h1' := h1.same k3.same (fun hx => (h3 b hx).2 rfl)
  obtain ⟨M10, w1, w2, w3, w4⟩ := h1'.wr (o := 2) (vs := [.slice (some ⟨M.length, 0, none⟩) (L.length + ys.length) 3]) (by simp)
  have w2' : Cells M10 b [.int .i64 W, .int .i64 H, .slice (some ⟨M.length, 0, none⟩) (L ++ ys).length 3] := by simpa [wrL] using w2
  refine ⟨p, c, M9, M10, h1.ld 2, k1, w1, ⟨_, _, w2', ?_, ?_⟩, ?_, hb⟩
  · have := k2.same w3 (by simp; omega)
    simpa using this
  · have := h.same.le
    simp; omega
  · refine ((h.same.trans k3.same).trans w3).mono' fun x hx hlt' => ?_
    simp only [List.nil_append, List.mem_append, List.mem_singleton] at hx
    rcases hx with hx | hx
    · have := (h3 x hx).1; omega
    · omega

theorem cutL_length (W x y w h : Nat) (l : List Px) : (cutL W x y w h l).length = w * h := by simp [cutL]

theorem cut_take {W H x y w h r : Nat} {l : List Px} (hw : 1 ≤ w) (hx : x + w ≤ W) (hy : y + h ≤ H) (hl : l.length = W * H) (hr : r < h) :
    (cutL W x y w h l).take ((r + 1) * w) = (cutL W x y w h l).take (r * w) ++ (l.drop ((y + r) * W + x)).take w := by
  refine List.ext_getElem? fun j => ?_
  have hrw : (r + 1) * w ≤ h * w := Nat.mul_le_mul_right w hr
  have e1 : (r + 1) * w = r * w + w := by rw [Nat.add_mul, Nat.one_mul]
  have hwh : h * w = w * h := Nat.mul_comm h w
  have hlen : ((cutL W x y w h l).take (r * w)).length = r * w := by rw [List.length_take, cutL_length]; omega
  by_cases hj : j < r * w
  · rw [List.getElem?_append_left (by omega), List.getElem?_take_of_lt hj, List.getElem?_take_of_lt (by omega)]
  · rw [List.getElem?_append_right (by omega), hlen]
    by_cases hj2 : j < (r + 1) * w
    · rw [List.getElem?_take_of_lt hj2, List.getElem?_take_of_lt (by omega), List.getElem?_drop]
      rw [cutL, tab_get (by omega)]
      obtain ⟨t, rfl⟩ : ∃ t, j = r * w + t := ⟨j - r * w, by omega⟩
      have ht : t < w := by omega
      have d1 : (r * w + t) / w = r := by rw [Nat.mul_comm, Nat.mul_add_div (by omega), Nat.div_eq_of_lt ht, Nat.add_zero]
      have d2 : (r * w + t) % w = t := by rw [Nat.mul_comm, Nat.mul_add_mod, Nat.mod_eq_of_lt ht]
      rw [d1, d2, Nat.add_sub_cancel_left]
      have hb : (y + r) * W + (x + t) < l.length := by
        have := Nat.mul_le_mul_right W (show y + r + 1 ≤ H by omega)
        rw [hl, Nat.mul_comm W H]; rw [Nat.add_mul (y + r) 1] at this; omega
      rw [show (y + r) * W + x + t = (y + r) * W + (x + t) by omega, gP_get hb]
    · rw [List.getElem?_eq_none (by rw [List.length_take, cutL_length]; omega), List.getElem?_eq_none (by rw [List.length_take]; omega)]

theorem cut_loop {W H x y w h : Nat} (bW : 1 ≤ W ∧ W ≤ 256) (bH : 1 ≤ H ∧ H ≤ 256) (hw : 1 ≤ w) (hh : 1 ≤ h) (hx : x + w ≤ W) (hy : y + h ≤ H) {p : Option Addr} {cp : Nat} {l : List Px} (hl : l.length = W * H) {x5 x10 x12 : Nat} {B : AMem} (h5 : IsPic B x5 (W : Int) (H : Int) p cp l) (h10 : Cells B x10 [.int .i64 0, .int .i64 0, .slice none 0 0]) :
    ∀ (d r : Nat) (M : AMem), r + d = h → Out B M x12 (w : Int) (h : Int) ((cutL W x y w h l).take (r * w)) →
      ∃ M' o oc, P10_16 LL (x : Int) (y : Int) (w : Int) x5 x10 x12 (h : Int) (r : Int) M = some (.tuple #[picV (w : Int) (h : Int) o (w * h) oc, .bool true], M') ∧ RdL M' encP o (w * h) (cutL W x y w h l) ∧ Same B M' [x10] ∧ (∀ z ∈ blk o, B.length ≤ z) := by
  have hlen := cutL_length W x y w h l
  have hwh : w * h ≤ 256 * 256 := Nat.mul_le_mul (by omega) (by omega)
  have hwh1 : 1 ≤ w * h := Nat.mul_pos hw hh
  intro d
  induction d with
  | zero =>
    intro r M hr ho
    obtain rfl : r = h := by omega
    rw [List.take_of_length_le (by rw [hlen, Nat.mul_comm]; exact Nat.le_refl _)] at ho
    obtain ⟨o, oc, o1, o2, o3⟩ := ho.pic (by omega)
    rw [hlen] at o1 o2
    obtain ⟨e0, e1, e2⟩ := picV_ld o1.rd
    have h10' := h10.same ho.same (by simp)
    obtain ⟨M1, w1, w2, w3, w4⟩ := h10'.wr (o := 0) (vs := [.int .i64 (w : Int), .int .i64 (r : Int), .slice o (w * r) oc]) (by simp)
    have w2' : Cells M1 x10 [.int .i64 (w : Int), .int .i64 (r : Int), .slice o (w * r) oc] := by simpa [wrL] using w2
    obtain ⟨f0, f1, f2⟩ := picV_ld w2'.rd
    have h10l := h10.lt
    refine ⟨M1, o, oc, ?_, o2.same w3 (fun z hz => by have := (o3 z hz).1; simp; omega), (ho.same.trans w3).mono (by simp), fun z hz => (o3 z hz).1⟩
    rw [P10_16_eq LL L_loop, ifDn (Int.lt_irrefl _), P10_31_eq]
    simp only [↓bLI e0, ↓bLI e1, ↓bLS e2, ↓bX w1, ↓bLI f0, ↓bLI f1, ↓bLS f2]
    rfl
  | succ d ih =>
    intro r M hr ho
    have hrh : r < h := by omega
    have h5' := h5.st ho.same
    obtain ⟨a0, _, a2⟩ := picV_ld h5'.hd
    have hlp : 0 < l.length := by rw [hl]; exact Nat.mul_pos bW.1 bH.1
    have hlp2 : l.length ≤ 256 * 256 := by rw [hl]; exact Nat.mul_le_mul bW.2 bH.2
    obtain ⟨b, rfl, hb⟩ := h5'.px.2 hlp
    have hoff : (y + r) * W + x + w ≤ l.length := by
      have := Nat.mul_le_mul_right W (show y + r + 1 ≤ H by omega)
      rw [hl, Nat.mul_comm W H]; rw [Nat.add_mul (y + r) 1] at this; omega
    have htk := cut_take hw hx hy hl hrh
    have hys : ((l.drop ((y + r) * W + x)).take w).length = w := by rw [List.length_take, List.length_drop]; omega
    have htl : ((cutL W x y w h l).take (r * w)).length = r * w := by
      have := Nat.mul_le_mul_right w (Nat.le_of_lt hrh)
      rw [List.length_take, hlen, Nat.mul_comm w h]; omega
    have hrw : r * w + w ≤ 256 * 256 := by
      have := Nat.mul_le_mul_right w (show r + 1 ≤ h by omega)
      rw [Nat.add_mul, Nat.one_mul, Nat.mul_comm h w] at this; omega
    obtain ⟨o, oc, M9, M10, t1, t3, t4, t5⟩ := out_row ho (ys := (l.drop ((y + r) * W + x)).take w) (by omega) (by omega)
    rw [← htk] at t5
    obtain ⟨M', o', oc', r1, r2, r3, r4⟩ := ih (r + 1) M10 (by omega) t5
    refine ⟨M', o', oc', ?_, r2, r3, r4⟩
    generalize hq : (y + r) * W + x = q at *
    have hrow : ∀ c, rowOf M 3 (.slice (some ⟨b, 0 + q * 3, none⟩) w c) = some (((l.drop q).take w).flatMap encP) := fun c => by
      rw [Nat.zero_add, rowOf_some hb (by rw [flatMap_length encP_length]; omega), flat_drop (by omega), flat_take (by rw [List.length_drop]; omega)]
    rw [hys] at t3 t4
    have m1 : IntKind.wrap .i64 ((y : Int) + (r : Int)) = ((y + r : Nat) : Int) := by rw [w64 (by omega)]; rfl
    have bq : (y + r) * W ≤ 256 * 256 := by omega
    have m2 : IntKind.wrap .i64 (((y + r : Nat) : Int) * (W : Int)) = (((y + r) * W : Nat) : Int) := by
      rw [← Int.natCast_mul]; exact w64 (by omega)
    have m3 : IntKind.wrap .i64 ((((y + r) * W : Nat) : Int) + (x : Int)) = (q : Int) := by
      rw [← hq]
      generalize (y + r) * W = z at bq
      rw [w64 (by omega)]; rfl
    have m4 : IntKind.wrap .i64 ((q : Int) + (w : Int)) = ((q + w : Nat) : Int) := by rw [w64 (by omega)]; rfl
    have hg : (0 : Int) ≤ (q : Int) ∧ (q : Int) ≤ ((q + w : Nat) : Int) ∧ ((q + w : Nat) : Int) ≤ Int.ofNat l.length := by rw [ofN]; omega
    have hn : Int.toNat (((q + w : Nat) : Int) - (q : Int)) = w := by omega
    have hlt : (r : Int) < (h : Int) := by omega
    have hwi : IntKind.wrap .i64 ((r : Int) + 1) = ((r + 1 : Nat) : Int) := by rw [w64 (by omega)]; rfl
    rw [P10_16_eq LL L_loop, ifD hlt]
    simp only [↓bLI a0, ↓bLS t1, ↓bLS a2, m1, m2, m3, m4, ↓if_pos hg, hn, Int.toNat_natCast, Option.map_some]
    rw [hrow]
    simp only [Option.bind_some, t3, t4, P10_30_eq, hwi]
    exact r1

/-- May it be cut so? -/
def CFit (W H : Int) (l : List Px) (x y w h : Int) : Prop := PFit W H l ∧ (0 ≤ x ∧ 0 ≤ y) ∧ (1 ≤ w ∧ 1 ≤ h) ∧ w ≤ W ∧ h ≤ H ∧ x ≤ W - w ∧ y ≤ H - h
instance (W H : Int) (l : List Px) (x y w h : Int) : Decidable (CFit W H l x y w h) := by unfold CFit; infer_instance

theorem cut_spec {W H x y w h : Int} {p : Option Addr} {cp : Nat} {l : List Px} (hl : l.length ≤ 9223372036854775807) {M : AMem} (hp : RdL M encP p l.length l) :
    (CFit W H l x y w h → ∃ M' o oc, LL.call 10 [picV W H p l.length cp, .int .i64 x, .int .i64 y, .int .i64 w, .int .i64 h] M = some (.tuple #[picV w h o (w.toNat * h.toNat) oc, .bool true], M') ∧ RdL M' encP o (w.toNat * h.toNat) (cutL W.toNat x.toNat y.toNat w.toNat h.toNat l) ∧ Same M M' [] ∧ (∀ z ∈ blk o, M.length ≤ z)) ∧
    (¬ CFit W H l x y w h → ∃ M', LL.call 10 [picV W H p l.length cp, .int .i64 x, .int .i64 y, .int .i64 w, .int .i64 h] M = some (.tuple #[picV 0 0 none 0 0, .bool false], M') ∧ Same M M' []) := by
  rw [L_call10]
  unfold picV
  rw [E10]
  have g0 := cells_new M [.int .i64 W, .int .i64 H, .slice p l.length cp] 0
  have s0 := same_app M [AObj.cells [.int .i64 W, .int .i64 H, .slice p l.length cp] ⟨false, 0⟩]
  have n0 : (M ++ [AObj.cells [.int .i64 W, .int .i64 H, .slice p l.length cp] ⟨false, 0⟩]).length = M.length + 1 := by simp
  generalize hM0 : M ++ [AObj.cells [.int .i64 W, .int .i64 H, .slice p l.length cp] ⟨false, 0⟩] = M0 at g0 s0 n0
  have g1 := cells_new M0 [.int .i64 0, .int .i64 0, .slice none 0 0] 0
  have s1 := same_app M0 [AObj.cells [.int .i64 0, .int .i64 0, .slice none 0 0] ⟨false, 0⟩]
  have n1 : (M0 ++ [AObj.cells [.int .i64 0, .int .i64 0, .slice none 0 0] ⟨false, 0⟩]).length = M0.length + 1 := by simp
  generalize hM1 : M0 ++ [AObj.cells [.int .i64 0, .int .i64 0, .slice none 0 0] ⟨false, 0⟩] = M1 at g1 s1 n1
  have hs : Same M M1 [] := (s0.trans s1).mono (by simp)
  have a : IsPic M1 M.length W H p cp l := ⟨(g0.same s1 (by simp)).rd, hp.same hs (by simp)⟩
  obtain ⟨a0, a1, a2⟩ := picV_ld a.hd
  obtain ⟨M2, e2, s2⟩ := right_spec (W := W) (H := H) (c := cp) hl a.px
  unfold picV at e2
  have hs2 : Same M M2 [] := (hs.trans s2).mono (by simp)
  have l2 := s2.le
  have a' := a.st s2
  obtain ⟨b0, b1, _⟩ := picV_ld a'.hd
  obtain ⟨M4, w1, w2, w3, w4⟩ := (g1.same s2 (by simp)).wr (o := 0) (vs := [.int .i64 0, .int .i64 0, .slice none 0 0]) (by simp)
  have w2' : Cells M4 M0.length [.int .i64 0, .int .i64 0, .slice none 0 0] := by simpa [wrL] using w2
  obtain ⟨c0, c1, c2⟩ := picV_ld w2'.rd
  have hs4 : Same M M4 [] := (hs2.trans w3).mono' (by simp; omega)
  simp only [↓bLI a0, ↓bLI a1, ↓bLS a2, ↓bX e2, ↓bB]
  by_cases hf : PFit W H l
  · have hft : decide (PFit W H l) = true := decide_eq_true hf
    have bW := hf.2.1
    have bH := hf.2.2.1
    simp only [hft, ↓ifNT]
    by_cases q1 : (if y < x then y else x) < 0
    · refine ⟨fun h => absurd h.2.1 (by split at q1 <;> omega), fun _ => ⟨M4, ?_, hs4⟩⟩
      simp only [↓ifD q1, ↓bX w1, ↓bLI c0, ↓bLI c1, ↓bLS c2]
    by_cases q2 : (if h < w then h else w) < 1
    · refine ⟨fun h => absurd h.2.2.1 (by split at q2 <;> omega), fun _ => ⟨M4, ?_, hs4⟩⟩
      simp only [↓ifDn q1, ↓ifD q2, ↓bX w1, ↓bLI c0, ↓bLI c1, ↓bLS c2]
    by_cases q3 : w > W
    · refine ⟨fun h => absurd h.2.2.2.1 (by omega), fun _ => ⟨M4, ?_, hs4⟩⟩
      simp only [↓ifDn q1, ↓ifDn q2, ↓bLI b0, ↓ifD q3, ↓bX w1, ↓bLI c0, ↓bLI c1, ↓bLS c2]
    by_cases q4 : h > H
    · refine ⟨fun h => absurd h.2.2.2.2.1 (by omega), fun _ => ⟨M4, ?_, hs4⟩⟩
      simp only [↓ifDn q1, ↓ifDn q2, ↓bLI b0, ↓ifDn q3, ↓bLI b1, ↓ifD q4, ↓bX w1, ↓bLI c0, ↓bLI c1, ↓bLS c2]
    have r1 : 0 ≤ x ∧ 0 ≤ y := by split at q1 <;> omega
    have r2 : 1 ≤ w ∧ 1 ≤ h := by split at q2 <;> omega
    have u1 : IntKind.wrap .i64 (W - w) = W - w := w64 (by omega)
    have u2 : IntKind.wrap .i64 (H - h) = H - h := w64 (by omega)
    by_cases q5 : x > W - w
    · refine ⟨fun h => absurd h.2.2.2.2.2.1 (by omega), fun _ => ⟨M4, ?_, hs4⟩⟩
      simp only [↓ifDn q1, ↓ifDn q2, ↓bLI b0, ↓ifDn q3, ↓bLI b1, ↓ifDn q4, u1, ↓ifD q5, ↓bX w1, ↓bLI c0, ↓bLI c1, ↓bLS c2]
    by_cases q6 : y > H - h
    · refine ⟨fun h => absurd h.2.2.2.2.2.2 (by omega), fun _ => ⟨M4, ?_, hs4⟩⟩
      simp only [↓ifDn q1, ↓ifDn q2, ↓bLI b0, ↓ifDn q3, ↓bLI b1, ↓ifDn q4, u1, ↓ifDn q5, u2, ↓ifD q6, ↓bX w1, ↓bLI c0, ↓bLI c1, ↓bLS c2]
    have hc : CFit W H l x y w h := ⟨hf, r1, r2, by omega, by omega, by omega, by omega⟩
    refine ⟨fun _ => ?_, fun hn => absurd hc hn⟩
    obtain ⟨f1, f2, f3, f4⟩ := hf
    obtain ⟨W', rfl⟩ : ∃ n : Nat, W = (n : Int) := ⟨W.toNat, by omega⟩
    obtain ⟨H', rfl⟩ : ∃ n : Nat, H = (n : Int) := ⟨H.toNat, by omega⟩
    obtain ⟨x', rfl⟩ : ∃ n : Nat, x = (n : Int) := ⟨x.toNat, by omega⟩
    obtain ⟨y', rfl⟩ : ∃ n : Nat, y = (n : Int) := ⟨y.toNat, by omega⟩
    obtain ⟨w', rfl⟩ : ∃ n : Nat, w = (n : Int) := ⟨w.toNat, by omega⟩
    obtain ⟨h', rfl⟩ : ∃ n : Nat, h = (n : Int) := ⟨h.toNat, by omega⟩
    simp only [Int.toNat_natCast]
    have hlen : l.length = W' * H' := by rw [← Int.natCast_mul] at f4; omega
    obtain ⟨M5, y1, y2, y3, y4⟩ := wr_new M2 [.int .i64 0, .int .i64 0, .slice none 0 0] [.int .i64 (w' : Int), .int .i64 (h' : Int), .slice none 0 0] 0 rfl
    have ho : Out M2 M5 M2.length (w' : Int) (h' : Int) ((cutL W' x' y' w' h' l).take (0 * w')) := ⟨⟨none, 0, by simpa using y2, by simpa using Slc.nil M5 3 0, by simp⟩, y3, Nat.le_refl _⟩
    obtain ⟨M', o, oc, t1, t2, t3, t4⟩ := cut_loop (W := W') (H := H') (x := x') (y := y') (w := w') (h := h') (by omega) (by omega) (by omega) (by omega) (by omega) (by omega) hlen a' (g1.same s2 (by simp)) h' 0 M5 (by omega) ho
    refine ⟨M', o, oc, ?_, t2, (hs2.trans t3).mono' (by simp; omega), fun z hz => by have := t4 z hz; omega⟩
    simp only [↓ifDn q1, ↓ifDn q2, ↓bLI b0, ↓ifDn q3, ↓bLI b1, ↓ifDn q4, u1, ↓ifDn q5, u2, ↓ifDn q6, ↓bX y1]
    exact t1
  · have hft : decide (PFit W H l) = false := decide_eq_false hf
    refine ⟨fun h => absurd h.1 hf, fun _ => ⟨M4, ?_, hs4⟩⟩
    simp only [hft, ↓ifNF, ↓bX w1, ↓bLI c0, ↓bLI c1, ↓bLS c2]

end Go.Proofs.Ytncfdkmhpnopiaa
