/- mip.halved and mip.Half. -/
import Derived.Test.YtncfdkmhpnopiaaPicX
import Derived.Test.YtncfdkmhpnopiaaMipL
import Derived.Test.YtncfdkmhpnopiaaEqMip
set_option linter.unusedVariables false
set_option linter.unusedSimpArgs false
namespace Go.Proofs.Ytncfdkmhpnopiaa
open Go Go.Ax

theorem mhalf_spec {n : Nat} (h : n ≤ 256) : LL.call 24 [.int .i64 (n : Int)] [] = some (.int .i64 (hf n : Int), []) := by
  rw [L_call24, E24]
  have e1 : Int.tdiv (n : Int) 2 = ((n / 2 : Nat) : Int) := (Int.ofNat_tdiv n 2).symm
  rw [e1, w64 (n := ((n / 2 : Nat) : Int)) (by omega), w64 (by omega)]
  have : (n : Int) - ((n / 2 : Nat) : Int) = (hf n : Int) := by unfold hf; omega
  rw [this]

def pxadd (o x : Px) : Px := ⟨o.r + x.r, o.g + x.g, o.b + x.b⟩
def pxdiv (o : Px) : Px := ⟨o.r / 4, o.g / 4, o.b / 4⟩
def pxle (o : Px) (n : Int) : Prop := (0 ≤ o.r ∧ o.r ≤ n) ∧ (0 ≤ o.g ∧ o.g ≤ n) ∧ (0 ≤ o.b ∧ o.b ≤ n)

theorem chn_le {o : Px} {n : Int} (h : pxle o n) (c : Nat) : 0 ≤ chn o c ∧ chn o c ≤ n := by
  unfold pxle at h
  unfold chn
  split <;> omega

theorem pxle_add {o x : Px} {n m : Int} (h : pxle o n) (k : pxle x m) : pxle (pxadd o x) (n + m) := by
  unfold pxle pxadd at *; simp only; omega

/-- One channel is added. -/
theorem hadd1 {x1 x2 x3 a i n k c : Nat} {x30 : Int} {i0 i1 i2 i3 : Int} {Wh Hh : Int} {x : Px} {cs : List Px} {o : Px} {M : AMem} (hc : c < 3) (h3 : M.ld x3 2 = some (.slice (some ⟨a, 0, none⟩) n 3)) (hi : i < n) (hcs : Cells M a (cs.flatMap encP)) (ho : cs[i]? = some o) (bo : 0 ≤ chn o c ∧ chn o c ≤ 1000) (bx : 0 ≤ chn x c ∧ chn x c ≤ 1000) :
    ∃ M', P23_43 LL x1 x2 x3 (i : Int) x30 (i : Int) i0 i1 i2 i3 (k : Int) x.r x.g x.b (c : Int) M = P23_43 LL x1 x2 x3 (i : Int) x30 (i : Int) i0 i1 i2 i3 (k : Int) x.r x.g x.b ((c + 1 : Nat) : Int) M' ∧
      Cells M' a ((cs.set i (o.upd c (chn o c + chn x c))).flatMap encP) ∧ Same M M' [a] ∧ M'.length = M.length := by
  obtain ⟨M1, w1, w2, w3, w4⟩ := cell_wr encP_length hcs ho hc (encP_upd o hc (chn o c + chn x c))
  refine ⟨M1, ?_, w2, w3, w4⟩
  have eo := px_ldc hcs.rd ho hc
  have ex : ([x.r, x.g, x.b] : List Int)[c]? = some (chn x c) := by
    match c, hc with
    | 0, _ => rfl
    | 1, _ => rfl
    | 2, _ => rfl
  rw [P23_43_eq LL L_loop]
  have hlt : (c : Int) < 3 := by omega
  have h0 : (0 : Int) ≤ (c : Int) := by omega
  have j0 : (0 : Int) ≤ (i : Int) := by omega
  have j1 : (i : Int) < Int.ofNat n := by rw [ofN]; omega
  have wc : IntKind.wrap .i64 ((c : Int) + 1) = ((c + 1 : Nat) : Int) := by rw [w64 (by omega)]; rfl
  have ws : IntKind.wrap .i64 (chn o c + chn x c) = chn o c + chn x c := w64 (by omega)
  simp only [hlt, h0, j0, j1, and_self, decide_true, if_true, Int.toNat_natCast, Nat.mul_one, Nat.zero_add, ex, Option.bind_some, h3, sliceOf_slice, eo, intOf_int, ws, w1, P23_55_eq, wc]

theorem upd3 (o : Px) (a b c : Int) : ((o.upd 0 a).upd 1 b).upd 2 c = ⟨a, b, c⟩ := rfl

/-- One pixel is added. -/
theorem hadd {W H W' H' : Int} {p : Option Addr} {cp : Nat} {l : List Px} {x1 x2 x3 a i n k j : Nat} {x30 : Int} {i0 i1 i2 i3 : Int} {cs : List Px} {o x : Px} {M : AMem} (hk : k < 4) (hj : ([i0, i1, i2, i3] : List Int)[k]? = some (j : Int)) (hx : l[j]? = some x) (h1 : IsPic M x1 W H p cp l) (h3 : Rd M x3 [.int .i64 W', .int .i64 H', .slice (some ⟨a, 0, none⟩) n 3]) (hi : i < n) (hcs : Cells M a (cs.flatMap encP)) (ho : cs[i]? = some o)
    (bo : pxle o 800) (bx : x.fit) (d : x1 ≠ a ∧ x3 ≠ a ∧ ∀ b ∈ blk p, b ≠ a) :
    ∃ M', P23_29 LL x1 x2 x3 (i : Int) x30 (i : Int) i0 i1 i2 i3 (k : Int) M = P23_29 LL x1 x2 x3 (i : Int) x30 (i : Int) i0 i1 i2 i3 ((k + 1 : Nat) : Int) M' ∧
      Cells M' a ((cs.set i (pxadd o x)).flatMap encP) ∧ Same M M' [a] ∧ M'.length = M.length := by
  have hjl := (List.getElem?_eq_some_iff.1 hx).1
  obtain ⟨b, rfl, hb⟩ := h1.px.2 (by omega)
  obtain ⟨e0, e1, e2⟩ := px_ld hb hx
  have hil := (List.getElem?_eq_some_iff.1 ho).1
  have hbx : ∀ c, 0 ≤ chn x c ∧ chn x c ≤ 1000 := fun c => by have := chn_fit bx c; omega
  have s2 : M.ld x1 2 = some (.slice (some ⟨b, 0, none⟩) l.length cp) := h1.hd.ld 2
  have b0 := chn_le bo 0
  obtain ⟨M1, p1, p2, p3, p4⟩ := hadd1 (x1 := x1) (x2 := x2) (x30 := x30) (i0 := i0) (i1 := i1) (i2 := i2) (i3 := i3) (k := k) (x := x) (c := 0) (Wh := W) (Hh := H) (by omega) (h3.ld 2) hi hcs ho (by omega) (hbx 0)
  have g1 : (cs.set i (o.upd 0 (chn o 0 + chn x 0)))[i]? = some (o.upd 0 (chn o 0 + chn x 0)) := List.getElem?_set_self hil
  have b1 := chn_le bo 1
  obtain ⟨M2, p5, p6, p7, p8⟩ := hadd1 (x1 := x1) (x2 := x2) (x30 := x30) (i0 := i0) (i1 := i1) (i2 := i2) (i3 := i3) (k := k) (x := x) (c := 1) (Wh := W) (Hh := H) (by omega) ((h3.same p3 (by simp; exact d.2.1)).ld 2) hi p2 g1 (by show 0 ≤ chn o 1 ∧ chn o 1 ≤ 1000; omega) (hbx 1)
  rw [List.set_set] at p6
  have g2 : (cs.set i ((o.upd 0 (chn o 0 + chn x 0)).upd 1 (chn (o.upd 0 (chn o 0 + chn x 0)) 1 + chn x 1)))[i]? = some ((o.upd 0 (chn o 0 + chn x 0)).upd 1 (chn (o.upd 0 (chn o 0 + chn x 0)) 1 + chn x 1)) := List.getElem?_set_self hil
  have b2 := chn_le bo 2
  obtain ⟨M3, p9, p10, p11, p12⟩ := hadd1 (x1 := x1) (x2 := x2) (x30 := x30) (i0 := i0) (i1 := i1) (i2 := i2) (i3 := i3) (k := k) (x := x) (c := 2) (Wh := W) (Hh := H) (by omega) (((h3.same p3 (by simp; exact d.2.1)).same p7 (by simp; exact d.2.1)).ld 2) hi p6 g2 (by show 0 ≤ chn o 2 ∧ chn o 2 ≤ 1000; omega) (hbx 2)
  rw [List.set_set] at p10
  refine ⟨M3, ?_, p10, ((p3.trans p7).trans p11).mono (by simp), by omega⟩
  have t1 := (p1.trans p5).trans p9
  rw [show ((0 : Nat) : Int) = 0 from rfl] at t1
  rw [P23_29_eq LL L_loop]
  have hlt : (k : Int) < 4 := by omega
  have k0 : (0 : Int) ≤ (k : Int) := by omega
  have j0 : (0 : Int) ≤ (j : Int) := by omega
  have j1 : (j : Int) < Int.ofNat l.length := by rw [ofN]; omega
  have wk : IntKind.wrap .i64 ((k : Int) + 1) = ((k + 1 : Nat) : Int) := by rw [w64 (by omega)]; rfl
  simp only [hlt, k0, j0, j1, and_self, decide_true, if_true, Int.toNat_natCast, Nat.mul_one, Nat.zero_add, hj, Option.bind_some, s2, sliceOf_slice, e0, e1, e2, intOf_int]
  rw [t1, P23_43_eq LL L_loop, ifDn (show ¬ (((2 + 1 : Nat) : Int) < 3) by omega), P23_56_eq, wk]

/-- One channel is divided. -/
theorem hdiv1 {x1 x2 x3 a i n c : Nat} {x30 : Int} {cs : List Px} {o : Px} {M : AMem} (hc : c < 3) (h3 : M.ld x3 2 = some (.slice (some ⟨a, 0, none⟩) n 3)) (hi : i < n) (hcs : Cells M a (cs.flatMap encP)) (ho : cs[i]? = some o) (bo : 0 ≤ chn o c ∧ chn o c ≤ 2000) :
    ∃ M', P23_60 LL x1 x2 x3 (i : Int) x30 (i : Int) (c : Int) M = P23_60 LL x1 x2 x3 (i : Int) x30 (i : Int) ((c + 1 : Nat) : Int) M' ∧
      Cells M' a ((cs.set i (o.upd c (chn o c / 4))).flatMap encP) ∧ Same M M' [a] ∧ M'.length = M.length := by
  obtain ⟨M1, w1, w2, w3, w4⟩ := cell_wr encP_length hcs ho hc (encP_upd o hc (chn o c / 4))
  refine ⟨M1, ?_, w2, w3, w4⟩
  have eo := px_ldc hcs.rd ho hc
  rw [P23_60_eq LL L_loop]
  have hlt : (c : Int) < 3 := by omega
  have h0 : (0 : Int) ≤ (c : Int) := by omega
  have j0 : (0 : Int) ≤ (i : Int) := by omega
  have j1 : (i : Int) < Int.ofNat n := by rw [ofN]; omega
  have wc : IntKind.wrap .i64 ((c : Int) + 1) = ((c + 1 : Nat) : Int) := by rw [w64 (by omega)]; rfl
  have ed : Int.tdiv (chn o c) 4 = chn o c / 4 := Int.tdiv_eq_ediv_of_nonneg bo.1
  have ws : IntKind.wrap .i64 (chn o c / 4) = chn o c / 4 := w64 (by omega)
  simp only [hlt, h0, j0, j1, and_self, decide_true, if_true, Int.toNat_natCast, Nat.mul_one, Nat.zero_add, Option.bind_some, h3, sliceOf_slice, eo, intOf_int, ed, ws, w1, P23_72_eq, wc]

/-- The sum of four, and what it comes to. -/
theorem hdiv {W' H' : Int} {x1 x2 x3 a i n : Nat} {x30 : Int} {cs : List Px} {o : Px} {M : AMem} (h3 : Rd M x3 [.int .i64 W', .int .i64 H', .slice (some ⟨a, 0, none⟩) n 3]) (hi : i < n) (hcs : Cells M a (cs.flatMap encP)) (ho : cs[i]? = some o) (bo : pxle o 2000) (d : x3 ≠ a) :
    ∃ M', P23_60 LL x1 x2 x3 (i : Int) x30 (i : Int) 0 M = P23_73 LL x1 x2 x3 x30 (i : Int) M' ∧
      Cells M' a ((cs.set i (pxdiv o)).flatMap encP) ∧ Same M M' [a] ∧ M'.length = M.length := by
  have hil := (List.getElem?_eq_some_iff.1 ho).1
  obtain ⟨M1, p1, p2, p3, p4⟩ := hdiv1 (x1 := x1) (x2 := x2) (x30 := x30) (c := 0) (by omega) (h3.ld 2) hi hcs ho (chn_le bo 0)
  have g1 : (cs.set i (o.upd 0 (chn o 0 / 4)))[i]? = some (o.upd 0 (chn o 0 / 4)) := List.getElem?_set_self hil
  obtain ⟨M2, p5, p6, p7, p8⟩ := hdiv1 (x1 := x1) (x2 := x2) (x30 := x30) (c := 1) (by omega) ((h3.same p3 (by simp; exact d)).ld 2) hi p2 g1 (chn_le bo 1)
  rw [List.set_set] at p6
  have g2 : (cs.set i ((o.upd 0 (chn o 0 / 4)).upd 1 (chn (o.upd 0 (chn o 0 / 4)) 1 / 4)))[i]? = some ((o.upd 0 (chn o 0 / 4)).upd 1 (chn (o.upd 0 (chn o 0 / 4)) 1 / 4)) := List.getElem?_set_self hil
  obtain ⟨M3, p9, p10, p11, p12⟩ := hdiv1 (x1 := x1) (x2 := x2) (x30 := x30) (c := 2) (by omega) (((h3.same p3 (by simp; exact d)).same p7 (by simp; exact d)).ld 2) hi p6 g2 (chn_le bo 2)
  rw [List.set_set] at p10
  refine ⟨M3, ?_, p10, ((p3.trans p7).trans p11).mono (by simp), by omega⟩
  have t1 := (p1.trans p5).trans p9
  rw [show ((0 : Nat) : Int) = 0 from rfl] at t1
  rw [t1, P23_60_eq LL L_loop, ifDn (show ¬ (((2 + 1 : Nat) : Int) < 3) by omega)]

theorem pxle_fit {x : Px} (h : x.fit) : pxle x 255 := h
theorem pxle_mono {o : Px} {n m : Int} (h : pxle o n) (hn : n ≤ m) : pxle o m := by unfold pxle at *; omega
theorem mk4_eq (a b c d : Px) : pxdiv (pxadd (pxadd (pxadd (pxadd pz a) b) c) d) = mk4 a b c d := by
  simp only [pxdiv, pxadd, mk4, pz, Px.mk.injEq]
  refine ⟨?_, ?_, ?_⟩ <;> congr 1 <;> omega

theorem halved_loop {W H : Nat} (hW : 1 ≤ W ∧ W ≤ 256) (hH : 1 ≤ H ∧ H ≤ 256) {p : Option Addr} {cp : Nat} {l : List Px} (hl : l.length = W * H) (hfit : ∀ x ∈ l, x.fit) {x1 x2 x3 a : Nat} (d : x1 ≠ a ∧ x3 ≠ a ∧ x2 ≠ a ∧ x2 ≠ x3 ∧ x1 ≠ x2 ∧ ∀ b ∈ blk p, b ≠ a) :
    ∀ (k i : Nat) (M : AMem), i + k = hf W * hf H → IsPic M x1 (W : Int) (H : Int) p cp l → Rd M x3 [.int .i64 (hf W : Int), .int .i64 (hf H : Int), .slice (some ⟨a, 0, none⟩) (hf W * hf H) 3] → Cells M x2 [.int .i64 0, .int .i64 0, .slice none 0 0] →
      Cells M a (((halfL W H l).take i ++ List.replicate (hf W * hf H - i) pz).flatMap encP) →
      ∃ M', P23_10 LL x1 x2 x3 ((hf W * hf H : Nat) : Int) (i : Int) M = some (picV (hf W : Int) (hf H : Int) (some ⟨a, 0, none⟩) (hf W * hf H) 3, M') ∧ Cells M' a ((halfL W H l).flatMap encP) ∧ Same M M' [a, x2] := by
  have hlen : (halfL W H l).length = hf W * hf H := by simp [halfL]
  have hw1 : 1 ≤ hf W ∧ hf W ≤ 128 := by unfold hf; omega
  have hh1 : 1 ≤ hf H ∧ hf H ≤ 128 := by unfold hf; omega
  have hmul : hf W * hf H ≤ 128 * 128 := Nat.mul_le_mul hw1.2 hh1.2
  intro k
  induction k with
  | zero =>
    intro i M hi h1 h3 h2 hc
    obtain rfl : i = hf W * hf H := by omega
    rw [List.take_of_length_le (by omega), Nat.sub_self, List.replicate_zero, List.append_nil] at hc
    obtain ⟨e0, e1, e2⟩ := picV_ld h3
    obtain ⟨M1, w1, w2, w3, w4⟩ := h2.wr (o := 0) (vs := [.int .i64 (hf W : Int), .int .i64 (hf H : Int), .slice (some ⟨a, 0, none⟩) (hf W * hf H) 3]) (by simp)
    have w2' : Cells M1 x2 [.int .i64 (hf W : Int), .int .i64 (hf H : Int), .slice (some ⟨a, 0, none⟩) (hf W * hf H) 3] := by simpa [wrL] using w2
    obtain ⟨f0, f1, f2⟩ := picV_ld w2'.rd
    refine ⟨M1, ?_, hc.same w3 (by simp; exact Ne.symm d.2.2.1), w3.mono (by simp)⟩
    rw [P23_10_eq LL L_loop, ifDn (Int.lt_irrefl _), P23_74_eq]
    simp only [↓bLI e0, ↓bLI e1, ↓bLS e2, ↓bX w1, ↓bLI f0, ↓bLI f1, ↓bLS f2]
    rfl
  | succ k ih =>
    intro i M hi h1 h3 h2 hc
    have hin : i < hf W * hf H := by omega
    have X0 : i % hf W < hf W := Nat.mod_lt _ (by omega)
    have Y0 : i / hf W < hf H := (Nat.div_lt_iff_lt_mul (by omega)).2 (by rw [Nat.mul_comm]; exact hin)
    generalize hX : 2 * (i % hf W) = X at *
    generalize hY : 2 * (i / hf W) = Y at *
    have hXW : X ≤ W - 1 := by unfold hf at X0 hX; omega
    have hYH : Y ≤ H - 1 := by unfold hf at Y0 hY; omega
    have hidx : ∀ u v, u ≤ W - 1 → v ≤ H - 1 → v * W + u < l.length := fun u v hu hv => by
      have := Nat.mul_le_mul_right W (show v + 1 ≤ H by omega)
      rw [hl, Nat.mul_comm W H]; rw [Nat.add_mul] at this; omega
    have hlen2 : l.length ≤ 65536 := by
      rw [hl]; exact Nat.mul_le_mul hW.2 hH.2
    let R := min (X + 1) (W - 1)
    let B := min (Y + 1) (H - 1)
    have hR : R ≤ W - 1 := Nat.min_le_right _ _
    have hB : B ≤ H - 1 := Nat.min_le_right _ _
    have k0 := hidx X Y hXW hYH
    have k1 := hidx R Y hR hYH
    have k2 := hidx X B hXW hB
    have k3 := hidx R B hR hB
    obtain ⟨e0, e1, _⟩ := picV_ld h1.hd
    obtain ⟨f0, _, f2⟩ := picV_ld h3
    have htl : ((halfL W H l).take i).length = i := by simp [hlen]; omega
    have hrep : List.replicate (hf W * hf H - i) pz = pz :: List.replicate (hf W * hf H - (i + 1)) pz := by
      rw [show hf W * hf H - i = (hf W * hf H - (i + 1)) + 1 by omega, List.replicate_succ]
    rw [hrep] at hc
    have hset : ∀ v v' : Px, ((halfL W H l).take i ++ v' :: List.replicate (hf W * hf H - (i + 1)) pz).set i v = (halfL W H l).take i ++ v :: List.replicate (hf W * hf H - (i + 1)) pz := fun v v' => by
      rw [List.set_append_right _ _ (by omega), htl]; simp
    have hget : ∀ v : Px, ((halfL W H l).take i ++ v :: List.replicate (hf W * hf H - (i + 1)) pz)[i]? = some v := fun v => by
      rw [List.getElem?_append_right (by omega), htl]; simp
    have dd : x1 ≠ a ∧ x3 ≠ a ∧ ∀ b ∈ blk p, b ≠ a := ⟨d.1, d.2.1, d.2.2.2.2.2⟩
    have fg : ∀ j, (gP l j).fit := fun j => gP_fit hfit j
    have b0 : pxle pz 0 := by unfold pxle pz; decide
    obtain ⟨M1, p1, p2, p3, p4⟩ := hadd (x2 := x2) (x30 := ((hf W * hf H : Nat) : Int)) (i0 := ((Y * W + X : Nat) : Int)) (i1 := ((Y * W + R : Nat) : Int)) (i2 := ((B * W + X : Nat) : Int)) (i3 := ((B * W + R : Nat) : Int)) (k := 0) (j := Y * W + X) (by omega) rfl (gP_get k0) h1 h3 hin hc (hget _) (pxle_mono b0 (by omega)) (fg _) dd
    rw [hset] at p2
    have h11 : IsPic M1 x1 (W : Int) (H : Int) p cp l := ⟨h1.hd.same p3 (by simp; exact dd.1), h1.px.same p3 (fun b hb => by simp; exact dd.2.2 b hb)⟩
    have h31 := h3.same p3 (by simp; exact dd.2.1)
    have b1 := pxle_add b0 (pxle_fit (fg (Y * W + X)))
    obtain ⟨M2, p5, p6, p7, p8⟩ := hadd (x2 := x2) (x30 := ((hf W * hf H : Nat) : Int)) (i0 := ((Y * W + X : Nat) : Int)) (i1 := ((Y * W + R : Nat) : Int)) (i2 := ((B * W + X : Nat) : Int)) (i3 := ((B * W + R : Nat) : Int)) (k := 1) (j := Y * W + R) (by omega) rfl (gP_get k1) h11 h31 hin p2 (hget _) (pxle_mono b1 (by omega)) (fg _) dd
    rw [hset] at p6
    have h12 : IsPic M2 x1 (W : Int) (H : Int) p cp l := ⟨h11.hd.same p7 (by simp; exact dd.1), h11.px.same p7 (fun b hb => by simp; exact dd.2.2 b hb)⟩
    have h32 := h31.same p7 (by simp; exact dd.2.1)
    have b2 := pxle_add b1 (pxle_fit (fg (Y * W + R)))
    obtain ⟨M3, p9, p10, p11, p12⟩ := hadd (x2 := x2) (x30 := ((hf W * hf H : Nat) : Int)) (i0 := ((Y * W + X : Nat) : Int)) (i1 := ((Y * W + R : Nat) : Int)) (i2 := ((B * W + X : Nat) : Int)) (i3 := ((B * W + R : Nat) : Int)) (k := 2) (j := B * W + X) (by omega) rfl (gP_get k2) h12 h32 hin p6 (hget _) (pxle_mono b2 (by omega)) (fg _) dd
    rw [hset] at p10
    have h13 : IsPic M3 x1 (W : Int) (H : Int) p cp l := ⟨h12.hd.same p11 (by simp; exact dd.1), h12.px.same p11 (fun b hb => by simp; exact dd.2.2 b hb)⟩
    have h33 := h32.same p11 (by simp; exact dd.2.1)
    have b3 := pxle_add b2 (pxle_fit (fg (B * W + X)))
    obtain ⟨M4, p13, p14, p15, p16⟩ := hadd (x2 := x2) (x30 := ((hf W * hf H : Nat) : Int)) (i0 := ((Y * W + X : Nat) : Int)) (i1 := ((Y * W + R : Nat) : Int)) (i2 := ((B * W + X : Nat) : Int)) (i3 := ((B * W + R : Nat) : Int)) (k := 3) (j := B * W + R) (by omega) rfl (gP_get k3) h13 h33 hin p10 (hget _) (pxle_mono b3 (by omega)) (fg _) dd
    rw [hset] at p14
    have h14 : IsPic M4 x1 (W : Int) (H : Int) p cp l := ⟨h13.hd.same p15 (by simp; exact dd.1), h13.px.same p15 (fun b hb => by simp; exact dd.2.2 b hb)⟩
    have h34 := h33.same p15 (by simp; exact dd.2.1)
    have b4 := pxle_add b3 (pxle_fit (fg (B * W + R)))
    obtain ⟨M5, q1, q2, q3, q4⟩ := hdiv (x1 := x1) (x2 := x2) (x30 := ((hf W * hf H : Nat) : Int)) h34 hin p14 (hget _) (pxle_mono b4 (by omega)) dd.2.1
    rw [hset, mk4_eq] at q2
    have hpx : (halfL W H l)[i]? = some (mk4 (gP l (Y * W + X)) (gP l (Y * W + R)) (gP l (B * W + X)) (gP l (B * W + R))) := by
      rw [halfL, tab_get hin]
      unfold halfP atP
      rw [hX, hY, Nat.min_eq_left hYH, Nat.min_eq_left hXW]
    rw [show (halfL W H l).take i ++ mk4 (gP l (Y * W + X)) (gP l (Y * W + R)) (gP l (B * W + X)) (gP l (B * W + R)) :: List.replicate (hf W * hf H - (i + 1)) pz = (halfL W H l).take (i + 1) ++ List.replicate (hf W * hf H - (i + 1)) pz by rw [take_snoc hpx]; simp] at q2
    have hall : Same M M5 [a] := ((((p3.trans p7).trans p11).trans p15).trans q3).mono (by simp)
    obtain ⟨M', r1, r2, r3⟩ := ih (i + 1) M5 (by omega) ⟨h1.hd.same hall (by simp; exact dd.1), h1.px.same hall (fun b hb => by simp; exact dd.2.2 b hb)⟩ (h3.same hall (by simp; exact dd.2.1)) (h2.same hall (by simp; exact d.2.2.1)) q2
    refine ⟨M', ?_, r2, (hall.trans r3).mono (by simp)⟩
    have hlt : (i : Int) < ((hf W * hf H : Nat) : Int) := by omega
    have hw0 : ¬ ((hf W : Nat) : Int) = 0 := by omega
    have m1 : Int.tmod (i : Int) ((hf W : Nat) : Int) = ((i % hf W : Nat) : Int) := (Int.ofNat_tmod _ _).symm
    have m2 : Int.tdiv (i : Int) ((hf W : Nat) : Int) = ((i / hf W : Nat) : Int) := (Int.ofNat_tdiv _ _).symm
    have bX : X ≤ 256 := by omega
    have bY : Y ≤ 256 := by omega
    have e1' : IntKind.wrap .i64 (2 * ((i % hf W : Nat) : Int)) = (X : Int) := by rw [w64 (by omega)]; omega
    have e2' : IntKind.wrap .i64 ((i / hf W : Nat) : Int) = ((i / hf W : Nat) : Int) := w64 (by omega)
    have e3' : IntKind.wrap .i64 (2 * ((i / hf W : Nat) : Int)) = (Y : Int) := by rw [w64 (by omega)]; omega
    have e4' : (if IntKind.wrap .i64 ((W : Int) - 1) < IntKind.wrap .i64 ((X : Int) + 1) then IntKind.wrap .i64 ((W : Int) - 1) else IntKind.wrap .i64 ((X : Int) + 1)) = (R : Int) := by
      rw [w64 (n := (W : Int) - 1) (by omega), w64 (n := (X : Int) + 1) (by omega)]
      show _ = ((min (X + 1) (W - 1) : Nat) : Int)
      split <;> omega
    have e5' : (if IntKind.wrap .i64 ((H : Int) - 1) < IntKind.wrap .i64 ((Y : Int) + 1) then IntKind.wrap .i64 ((H : Int) - 1) else IntKind.wrap .i64 ((Y : Int) + 1)) = (B : Int) := by
      rw [w64 (n := (H : Int) - 1) (by omega), w64 (n := (Y : Int) + 1) (by omega)]
      show _ = ((min (Y + 1) (H - 1) : Nat) : Int)
      split <;> omega
    have hix : ∀ u v : Nat, v * W + u < l.length → IntKind.wrap .i64 (IntKind.wrap .i64 ((v : Int) * (W : Int)) + (u : Int)) = ((v * W + u : Nat) : Int) := fun u v h => by
      have e : (v : Int) * (W : Int) = ((v * W : Nat) : Int) := (Int.natCast_mul v W).symm
      generalize v * W = vw at h e ⊢
      rw [e, w64 (n := (vw : Int)) (by omega), w64 (by omega)]
      rfl
    have hwi : IntKind.wrap .i64 ((i : Int) + 1) = ((i + 1 : Nat) : Int) := by rw [w64 (by omega)]; rfl
    have t1 := ((p1.trans p5).trans p9).trans p13
    rw [show ((0 : Nat) : Int) = 0 from rfl] at t1
    rw [P23_10_eq LL L_loop, ifD hlt]
    simp only [↓bLI f0, ↓if_neg hw0, ↓bLI e0, ↓bLI e1, m1, m2, e1', e2', e3', e4', e5']
    rw [P23_25_eq]
    simp only [↓bLI e0, hix _ _ k0, hix _ _ k1, hix _ _ k2, hix _ _ k3]
    rw [t1, P23_29_eq LL L_loop, ifDn (show ¬ (((3 + 1 : Nat) : Int) < 4) by omega), P23_57_eq, q1, P23_73_eq, hwi]
    exact r1

theorem halved_spec {W H : Nat} (hW : 1 ≤ W ∧ W ≤ 256) (hH : 1 ≤ H ∧ H ≤ 256) {p : Option Addr} {cp : Nat} {l : List Px} (hl : l.length = W * H) (hfit : ∀ x ∈ l, x.fit) {M : AMem} (hp : RdL M encP p l.length l) :
    ∃ M' a, LL.call 23 [picV (W : Int) (H : Int) p l.length cp] M = some (picV (hf W : Int) (hf H : Int) (some ⟨a, 0, none⟩) (hf W * hf H) 3, M') ∧ Cells M' a ((halfL W H l).flatMap encP) ∧ Same M M' [] ∧ M.length ≤ a := by
  rw [L_call23]
  unfold picV
  rw [E23]
  have hw1 : 1 ≤ hf W ∧ hf W ≤ 128 := by unfold hf; omega
  have hh1 : 1 ≤ hf H ∧ hf H ≤ 128 := by unfold hf; omega
  have hmul : hf W * hf H ≤ 128 * 128 := Nat.mul_le_mul hw1.2 hh1.2
  have hpos : 1 ≤ W * H := Nat.mul_pos hW.1 hH.1
  have g0 := cells_new M [.int .i64 (W : Int), .int .i64 (H : Int), .slice p l.length cp] 0
  have s0 := same_app M [AObj.cells [.int .i64 (W : Int), .int .i64 (H : Int), .slice p l.length cp] ⟨false, 0⟩]
  have n0 : (M ++ [AObj.cells [.int .i64 (W : Int), .int .i64 (H : Int), .slice p l.length cp] ⟨false, 0⟩]).length = M.length + 1 := by simp
  generalize hM0 : M ++ [AObj.cells [.int .i64 (W : Int), .int .i64 (H : Int), .slice p l.length cp] ⟨false, 0⟩] = M0 at g0 s0 n0
  have g1 := cells_new M0 [.int .i64 0, .int .i64 0, .slice none 0 0] 0
  have s1 := same_app M0 [AObj.cells [.int .i64 0, .int .i64 0, .slice none 0 0] ⟨false, 0⟩]
  have n1 : (M0 ++ [AObj.cells [.int .i64 0, .int .i64 0, .slice none 0 0] ⟨false, 0⟩]).length = M0.length + 1 := by simp
  generalize hM1 : M0 ++ [AObj.cells [.int .i64 0, .int .i64 0, .slice none 0 0] ⟨false, 0⟩] = M1 at g1 s1 n1
  obtain ⟨M2, w1, w2, w3, w4⟩ := wr_new M1 [.int .i64 0, .int .i64 0, .slice none 0 0] [.int .i64 (hf W : Int), .int .i64 (hf H : Int), .slice none 0 0] 0 rfl
  have s1b := same_app M1 [AObj.cells [.int .i64 0, .int .i64 0, .slice none 0 0] ⟨false, 0⟩]
  have hchk : chkOk [(1, 7), (4, 7)] [(4, M.length), (1, M.length)] [(7, (M1, M1 ++ [AObj.cells [.int .i64 0, .int .i64 0, .slice none 0 0] ⟨false, 0⟩]))] = true := by
    simp [chkOk, List.lookup, ver_same s1b (show M.length < M1.length by omega) (by simp)]
  obtain ⟨a0, a1, _⟩ := picV_ld (g0.same s1 (by simp)).rd
  obtain ⟨b0, b1, _⟩ := picV_ld w2.rd
  have hm : IntKind.wrap .i64 ((hf W : Int) * (hf H : Int)) = ((hf W * hf H : Nat) : Int) := by
    rw [← Int.natCast_mul]; exact w64 (by omega)
  have hg : (0 : Int) ≤ ((hf W * hf H : Nat) : Int) ∧ ((hf W * hf H : Nat) : Int) ≤ ((hf W * hf H : Nat) : Int) ∧ ((hf W * hf H : Nat) : Int) ≤ 140737488355328 ∧ ((hf W * hf H : Nat) : Int) * 24 ≤ 140737488355328 := by omega
  have hz : (List.replicate (hf W * hf H) [Value.int .i64 0, Value.int .i64 0, Value.int .i64 0]).flatten = (List.replicate (hf W * hf H) pz).flatMap encP := replicate_flat encP pz _
  have ht : Int.toNat ((hf W * hf H : Nat) : Int) = hf W * hf H := Int.toNat_natCast _
  have g3 := cells_new M2 ((List.replicate (hf W * hf H) pz).flatMap encP) 0
  have s3 := same_app M2 [AObj.cells ((List.replicate (hf W * hf H) pz).flatMap encP) ⟨false, 0⟩]
  have n3 : (M2 ++ [AObj.cells ((List.replicate (hf W * hf H) pz).flatMap encP) ⟨false, 0⟩]).length = M2.length + 1 := by simp
  have w23 := w2.same s3 (by simp)
  obtain ⟨M4, y1, y2, y3, y4⟩ := w23.wr (o := 2) (vs := [.slice (some ⟨M2.length, 0, none⟩) (hf W * hf H) 3]) (by simp)
  have y2' : Cells M4 M1.length [.int .i64 (hf W : Int), .int .i64 (hf H : Int), .slice (some ⟨M2.length, 0, none⟩) (hf W * hf H) 3] := by simpa [wrL] using y2
  obtain ⟨_, _, c2⟩ := picV_ld y2'.rd
  have t4 : Same M M4 [] := ((((s0.trans s1).trans w3).trans s3).trans y3).mono' (by simp <;> omega)
  have hpl := hp.lt (by omega)
  have h1 : IsPic M4 M.length (W : Int) (H : Int) p cp l := ⟨((((g0.same s1 (by simp)).same w3 (by simp)).same s3 (by simp)).same y3 (by simp; omega)).rd, hp.same t4 (by simp)⟩
  obtain ⟨M', r1, r2, r3⟩ := halved_loop hW hH hl hfit (x1 := M.length) (x2 := M0.length) (x3 := M1.length) (a := M2.length) ⟨by omega, by omega, by omega, by omega, by omega, fun b hb => by have := hpl b hb; omega⟩ (hf W * hf H) 0 M4 (by omega) h1 y2'.rd
    (((g1.same w3 (by simp)).same s3 (by simp)).same y3 (by simp; omega)) (by
      rw [List.take_zero, Nat.sub_zero, List.nil_append]
      exact g3.same y3 (by simp; omega))
  refine ⟨M', M2.length, ?_, r2, (t4.trans r3).mono' (by simp; omega), by omega⟩
  simp only [↓bLI a0, ↓bX (mhalf_spec hW.2), ↓bI, ↓bLI a1, ↓bX (mhalf_spec hH.2), ↓bX w1, ↓if_pos hchk, ↓bLI b0, ↓bLI b1, hm, ↓if_pos hg, ht, hz]
  simp only [↓bX y1, ↓bLS c2, ofN]
  exact r1

/-- The halves of a picture that may be; none of another one. -/
theorem half_spec {W H : Int} {p : Option Addr} {cp : Nat} {l : List Px} (hl : l.length ≤ 9223372036854775807) {M : AMem} (hp : RdL M encP p l.length l) :
    (PFit W H l → ∃ M' a, LL.call 8 [picV W H p l.length cp] M = some (picV (hf W.toNat : Int) (hf H.toNat : Int) (some ⟨a, 0, none⟩) (hf W.toNat * hf H.toNat) 3, M') ∧ Cells M' a ((halfL W.toNat H.toNat l).flatMap encP) ∧ Same M M' [] ∧ M.length ≤ a) ∧
    (¬ PFit W H l → ∃ M', LL.call 8 [picV W H p l.length cp] M = some (picV 0 0 none 0 0, M') ∧ Same M M' []) := by
  rw [L_call8]
  unfold picV
  rw [E8]
  have g0 := cells_new M [.int .i64 W, .int .i64 H, .slice p l.length cp] 0
  have s0 := same_app M [AObj.cells [.int .i64 W, .int .i64 H, .slice p l.length cp] ⟨false, 0⟩]
  have n0 : (M ++ [AObj.cells [.int .i64 W, .int .i64 H, .slice p l.length cp] ⟨false, 0⟩]).length = M.length + 1 := by simp
  generalize hM0 : M ++ [AObj.cells [.int .i64 W, .int .i64 H, .slice p l.length cp] ⟨false, 0⟩] = M0 at g0 s0 n0
  have g1 := cells_new M0 [.int .i64 0, .int .i64 0, .slice none 0 0] 0
  have s1 := same_app M0 [AObj.cells [.int .i64 0, .int .i64 0, .slice none 0 0] ⟨false, 0⟩]
  have n1 : (M0 ++ [AObj.cells [.int .i64 0, .int .i64 0, .slice none 0 0] ⟨false, 0⟩]).length = M0.length + 1 := by simp
  generalize hM1 : M0 ++ [AObj.cells [.int .i64 0, .int .i64 0, .slice none 0 0] ⟨false, 0⟩] = M1 at g1 s1 n1
  have hs : Same M M1 [] := (s0.trans s1).mono (by simp)
  have a : IsPic M1 M.length W H p cp l := ⟨(g0.same s1 (by simp)).rd, hp.same hs (by simp)⟩
  obtain ⟨a0, a1, a2⟩ := picV_ld a.hd
  obtain ⟨M2, e2, s2⟩ := right_spec (W := W) (H := H) (c := cp) hl a.px
  unfold picV at e2
  have hs2 : Same M M2 [] := (hs.trans s2).mono (by simp)
  simp only [↓bLI a0, ↓bLI a1, ↓bLS a2, ↓bX e2, ↓bB]
  have l2 := s2.le
  refine ⟨fun hf' => ?_, fun hf' => ?_⟩
  · obtain ⟨f1, f2, f3, f4⟩ := hf'
    have hft : decide (PFit W H l) = true := decide_eq_true ⟨f1, f2, f3, f4⟩
    obtain ⟨w, rfl⟩ : ∃ w : Nat, W = (w : Int) := ⟨W.toNat, by omega⟩
    obtain ⟨h, rfl⟩ : ∃ h : Nat, H = (h : Int) := ⟨H.toNat, by omega⟩
    have a2' := a.st s2
    obtain ⟨b0, b1, b2⟩ := picV_ld a2'.hd
    have hlen : l.length = w * h := by rw [← Int.natCast_mul] at f4; omega
    obtain ⟨M3, z, e3, z3, s3, hz⟩ := halved_spec (W := w) (H := h) (cp := cp) (by omega) (by omega) hlen f1 a2'.px
    unfold picV at e3
    obtain ⟨M4, w1, w2, w3, w4⟩ := ((g1.same s2 (by simp)).same s3 (by simp)).wr (o := 0) (vs := [.int .i64 (hf w : Int), .int .i64 (hf h : Int), .slice (some ⟨z, 0, none⟩) (hf w * hf h) 3]) (by simp)
    have w2' : Cells M4 M0.length [.int .i64 (hf w : Int), .int .i64 (hf h : Int), .slice (some ⟨z, 0, none⟩) (hf w * hf h) 3] := by simpa [wrL] using w2
    obtain ⟨c0, c1, c2⟩ := picV_ld w2'.rd
    refine ⟨M4, z, ?_, z3.same w3 (by simp; omega), ((hs2.trans s3).trans w3).mono' (by simp; omega), by omega⟩
    simp only [hft, ↓ifNT, ↓bLI b0, ↓bLI b1, ↓bLS b2, ↓bX e3, ↓bA3, ↓bI0, ↓bI1, ↓bS2, ↓bX w1, ↓bLI c0, ↓bLI c1, ↓bLS c2, Int.toNat_natCast]
  · have hft : decide (PFit W H l) = false := decide_eq_false hf'
    obtain ⟨M4, w1, w2, w3, w4⟩ := (g1.same s2 (by simp)).wr (o := 0) (vs := [.int .i64 0, .int .i64 0, .slice none 0 0]) (by simp)
    have w2' : Cells M4 M0.length [.int .i64 0, .int .i64 0, .slice none 0 0] := by simpa [wrL] using w2
    obtain ⟨c0, c1, c2⟩ := picV_ld w2'.rd
    refine ⟨M4, ?_, (hs2.trans w3).mono' (by simp; omega)⟩
    simp only [hft, ↓ifNF, ↓bX w1, ↓bLI c0, ↓bLI c1, ↓bLS c2]

end Go.Proofs.Ytncfdkmhpnopiaa
