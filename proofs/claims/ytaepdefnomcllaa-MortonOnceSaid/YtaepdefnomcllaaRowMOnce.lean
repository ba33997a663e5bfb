/- MortonOnce: whatever the sides, the law answers true, and each argument reads as it did. No condition. -/
import Derived.Test.YtaepdefnomcllaaRows
import Derived.Test.YtaepdefnomcllaaRowMBack
import Derived.Test.YtaepdefnomcllaaWalkP
set_option linter.unusedVariables false
set_option linter.unusedSimpArgs false
namespace Go.Proofs.Ytaepdefnomcllaa
open Go Go.Ax

theorem wrL_ints' (k : IntKind) (L : List Int) (i : Nat) (to : Int) : wrL (ints k L) i [.int k to] = ints k (L.set i to) := by
  simp [wrL, ints, List.map_set]

theorem count_one : ∀ {l : List Nat} {k : Nat}, l.Nodup → k ∈ l → l.count k = 1
  | [], k, _, h => by simp at h
  | a :: l, k, hn, h => by
    rw [List.nodup_cons] at hn
    rw [List.count_cons]
    by_cases e : a = k
    · subst e
      rw [List.count_eq_zero_of_not_mem hn.1]; simp
    · have hm : k ∈ l := by
        rcases List.mem_cons.1 h with h | h
        · exact absurd h.symm e
        · exact h
      rw [count_one hn.2 hm]
      simp [e]

/-- How often each pixel was met. -/
def cnts (N : Nat) (l : List Nat) : List Int := (List.range N).map fun k => ((l.count k : Nat) : Int)

theorem cnts_len (N : Nat) (l : List Nat) : (cnts N l).length = N := by simp [cnts]

theorem cnts_get {N k : Nat} (h : k < N) (l : List Nat) : (cnts N l).getD k 0 = ((l.count k : Nat) : Int) := by
  rw [List.getD_eq_getElem?_getD]
  simp [cnts, h]

theorem cnts_set {N k : Nat} (h : k < N) (l : List Nat) : (cnts N l).set k (((l.count k + 1 : Nat)) : Int) = cnts N (l ++ [k]) := by
  refine List.ext_getElem (by simp [cnts]) fun j h1 h2 => ?_
  rw [List.getElem_set]
  simp only [cnts, List.getElem_map, List.getElem_range, List.count_append, List.count_singleton]
  split
  · rename_i e; subst e; simp
  · rename_i e; simp [e]

theorem ofI_nat {x y : Nat} (hx : x < 65536) (hy : y < 65536) : ofI (x : Int) (y : Int) = ((mor x y : Nat) : Int) := by
  rw [ofI, if_pos (by unfold inB; omega), Int.toNat_natCast, Int.toNat_natCast]

def encO (w : Nat) (q : Nat × Nat) : List Value := [.int .i64 ((q.2 * w + q.1 : Nat) : Int)]
theorem encO_len (w : Nat) (q : Nat × Nat) : (encO w q).length = 1 := rfl

theorem once46_loop {w h : Nat} (hw : 1 ≤ w ∧ w ≤ 16) (hh : 1 ≤ h ∧ h ≤ 16) {a b x9 c d : Nat} (hne : x9 ≠ a ∧ x9 ≠ b) : ∀ (k i : Nat) (M : AMem), i + k = w * h →
    Rd M a ((pls w h).flatMap encP) → Rd M b ((pls w h).flatMap (encO w)) → Cells M x9 (ints .i64 (cnts (w * h) (((pls w h).map (pix w)).take i))) →
    ∃ M', P10_20 LL w h (some ⟨a, 0, none⟩) (w * h) c (some ⟨b, 0, none⟩) (w * h) d x9 (w * h) i M = P10_41 LL x9 (w * h) M' ∧
      Cells M' x9 (ints .i64 (cnts (w * h) ((pls w h).map (pix w)))) := by
  have hlen := pls_length hw.1 hh.1
  have hN : w * h ≤ 16 * 16 := Nat.mul_le_mul hw.2 hh.2
  intro k
  induction k with
  | zero =>
    intro i M hi ha hb h9
    obtain rfl : i = w * h := by omega
    rw [List.take_of_length_le (by simp [hlen])] at h9
    refine ⟨M, ?_, h9⟩
    rw [P10_20_eq LL L_loop]
    have : ¬ (((w * h : Nat) : Int) < Int.ofNat (w * h)) := by rw [ofN]; omega
    simp only [this, decide_false, Bool.false_eq_true, if_false]
  | succ k ih =>
    intro i M hi ha hb h9
    have hil : i < (pls w h).length := by omega
    have hq := List.getElem?_eq_getElem hil
    have hqm := (pls_mem hw.1 hh.1 _).1 (List.getElem_mem hil)
    have hsort := List.pairwise_iff_getElem.1 (pls_sorted w h)
    have hprev : ∀ j, (hj : j < (pls w h).length) → j < i → mor (pls w h)[j].1 (pls w h)[j].2 < mor (pls w h)[i].1 (pls w h)[i].2 := fun j hj hji => hsort j i hj hil hji
    have hpx : ((pls w h).map (pix w))[i]? = some (pix w (pls w h)[i]) := by rw [List.getElem?_map, hq]; rfl
    have htk : ((pls w h).map (pix w)).take (i + 1) = ((pls w h).map (pix w)).take i ++ [pix w (pls w h)[i]] := by rw [List.take_add_one, hpx]; rfl
    have hpl := pix_lt hqm.1 hqm.2
    have hcle : (((pls w h).map (pix w)).take i).count (pix w (pls w h)[i]) ≤ 1000 := Nat.le_trans List.count_le_length (by simp; omega)
    generalize hqe : (pls w h)[i] = q at hq hqm hprev hpx htk hpl hcle
    obtain ⟨x, y⟩ := q
    have e0 := flat_get encP_len (pls w h) i 0 _ hq (by omega)
    have e1 := flat_get encP_len (pls w h) i 1 _ hq (by omega)
    have e2 := flat_get (encO_len w) (pls w h) i 0 _ hq (by omega)
    simp only [encP, encO, get0, get1, Nat.add_zero, Nat.mul_one] at e0 e1 e2
    simp only at hqm
    have hyw : y * w ≤ 16 * 16 := Nat.mul_le_mul (by omega) hw.2
    have c1 : (i : Int) < Int.ofNat (w * h) := by rw [ofN]; omega
    have c0 : (0 : Int) ≤ (i : Int) := by omega
    have d1 : ¬ ((x : Int) < 0) := by omega
    have d2 : ¬ ((x : Int) ≥ (w : Int)) := by omega
    have d3 : ¬ ((y : Int) < 0) := by omega
    have d4 : ¬ ((y : Int) ≥ (h : Int)) := by omega
    have ew : IntKind.wrap .i64 (IntKind.wrap .i64 ((y : Int) * (w : Int)) + (x : Int)) = ((y * w + x : Nat) : Int) := by
      rw [show (y : Int) * (w : Int) = ((y * w : Nat) : Int) by simp, w64 (n := ((y * w : Nat) : Int)) (by omega), w64 (by omega)]; simp
    have hpe : pix w (x, y) = y * w + x := rfl
    rw [hpe] at htk hpl hcle
    have g1 := cnts_get hpl (((pls w h).map (pix w)).take i)
    have g2 := ints_nat (k := .i64) (l := cnts (w * h) (((pls w h).map (pix w)).take i)) (i := y * w + x) (by rw [cnts_len]; exact hpl)
    rw [g1] at g2
    have hm0 : (0 : Int) ≤ ((y * w + x : Nat) : Int) ∧ ((y * w + x : Nat) : Int) < Int.ofNat (w * h) := by rw [ofN]; omega
    generalize hcn : (((pls w h).map (pix w)).take i).count (y * w + x) = cn at g1 g2 hcle
    have ew2 : IntKind.wrap .i64 ((cn : Int) + 1) = ((cn + 1 : Nat) : Int) := by rw [w64 (by omega)]; rfl
    obtain ⟨M1, w1, w2, w3, _⟩ := h9.wr (o := y * w + x) (vs := [.int .i64 ((cn + 1 : Nat) : Int)]) (by simp [cnts_len]; omega)
    rw [wrL_ints', ← hcn, cnts_set hpl, ← htk] at w2
    have hwi : IntKind.wrap .i64 ((i : Int) + 1) = ((i + 1 : Nat) : Int) := by rw [w64 (by omega)]; rfl
    obtain ⟨M', k1, k2⟩ := ih (i + 1) M1 (by omega) (ha.same w3 (by simp; omega)) (hb.same w3 (by simp; omega)) w2
    refine ⟨M', ?_, k2⟩
    rw [P10_20_eq LL L_loop]
    by_cases hz : i = 0
    · subst hz
      have z1 : ¬ (((0 : Nat) : Int) > 0) := by omega
      simp only [c1, c0, decide_true, if_true, and_self, Int.toNat_natCast, Nat.zero_add, Nat.mul_one, ha.ld, hb.ld, e0, e1, e2, intOf_int, Option.bind_some, d1, d2, d3, d4, decide_false, Bool.false_eq_true, if_false, ew, bne_self_eq_false, z1, hm0, h9.ld, g2, ew2, w1,
        P10_40_eq, hwi]
      exact k1
    · have z1 : ((i : Int) > 0) := by omega
      have z2 : IntKind.wrap .i64 ((i : Int) - 1) = ((i - 1 : Nat) : Int) := by rw [w64 (by omega)]; omega
      have z3 : (0 : Int) ≤ ((i - 1 : Nat) : Int) ∧ ((i - 1 : Nat) : Int) < Int.ofNat (w * h) := by rw [ofN]; omega
      have hjl : i - 1 < (pls w h).length := by omega
      have hr := List.getElem?_eq_getElem hjl
      have hrm := (pls_mem hw.1 hh.1 _).1 (List.getElem_mem hjl)
      have hlt := hprev (i - 1) hjl (by omega)
      generalize (pls w h)[i - 1] = r at hr hrm hlt
      obtain ⟨rx, ry⟩ := r
      have f0 := flat_get encP_len (pls w h) (i - 1) 0 _ hr (by omega)
      have f1 := flat_get encP_len (pls w h) (i - 1) 1 _ hr (by omega)
      simp only [encP, get0, get1, Nat.add_zero] at f0 f1
      simp only at hrm hlt
      obtain ⟨_, m1⟩ := mof_spec rx ry
      obtain ⟨_, m2⟩ := mof_spec x y
      rw [ofI_nat (by omega) (by omega)] at m1 m2
      have z4 : ¬ (((mor rx ry : Nat) : Int) ≥ ((mor x y : Nat) : Int)) := by omega
      simp only [c1, c0, decide_true, if_true, and_self, Int.toNat_natCast, Nat.zero_add, Nat.mul_one, ha.ld, hb.ld, e0, e1, e2, f0, f1, intOf_int, Option.bind_some, d1, d2, d3, d4, decide_false, Bool.false_eq_true, if_false, ew, bne_self_eq_false, z1, z2, z3, m1, m2, z4, hm0, h9.ld, g2, ew2, w1,
        P10_40_eq, hwi]
      exact k1

theorem met_loop {N x9 : Nat} {C : List Int} {M : AMem} (hN : N ≤ 1000) (hC : C.length = N) (h1 : ∀ k, k < N → C.getD k 0 = 1) (h9 : Rd M x9 (ints .i64 C)) : ∀ (d i : Nat), i + d = N →
    ∃ M', P10_45 LL x9 N i M = some (.bool true, M') := by
  obtain ⟨_, aw⟩ := awake46
  intro d
  induction d with
  | zero =>
    intro i hi
    obtain rfl : i = N := by omega
    rw [P10_45_eq LL L_loop]
    have : ¬ ((i : Int) < Int.ofNat i) := by rw [ofN]; omega
    simp only [this, decide_false, Bool.false_eq_true, if_false, P10_62_eq, aw, Option.bind_some, boolOf_bool]
    exact ⟨_, rfl⟩
  | succ d ih =>
    intro i hi
    obtain ⟨M', g⟩ := ih (i + 1) (by omega)
    refine ⟨M', ?_⟩
    rw [P10_45_eq LL L_loop]
    have c1 : (i : Int) < Int.ofNat N := by rw [ofN]; omega
    have c0 : (0 : Int) ≤ (i : Int) := by omega
    have hwi : IntKind.wrap .i64 ((i : Int) + 1) = ((i + 1 : Nat) : Int) := by rw [w64 (by omega)]; rfl
    simp only [c1, c0, and_self, decide_true, if_true, Nat.zero_add, Nat.mul_one, Int.toNat_natCast, h9.ld, ints_nat (show i < C.length by omega), h1 i (by omega), intOf_int, Option.bind_some, bne_self_eq_false, Bool.false_eq_true, if_false, P10_61_eq, hwi]
    exact g

theorem monce_law (x0 x1 : Nat) (h0 : x0 < 256) (h1 : x1 < 256) (M : AMem) : ∃ M', LL.call 10 [.int .u8 (x0 : Int), .int .u8 (x1 : Int)] M = some (.bool true, M') := by
  rw [L_call10, E10]
  have ew : ∀ v : Nat, v < 256 → IntKind.wrap .i64 (1 + Int.tmod (IntKind.wrap .i64 (v : Int)) 16) = ((1 + v % 16 : Nat) : Int) := fun v hv => by
    rw [w64 (n := (v : Int)) (by omega), Int.tmod_eq_emod_of_nonneg (by omega), w64 (by omega)]; omega
  rw [ew x0 h0, ew x1 h1]
  have bw : 1 ≤ 1 + x0 % 16 ∧ 1 + x0 % 16 ≤ 16 := by omega
  have bh : 1 ≤ 1 + x1 % 16 ∧ 1 + x1 % 16 ≤ 16 := by omega
  generalize 1 + x0 % 16 = w at bw
  generalize 1 + x1 % 16 = h at bh
  have hN : w * h ≤ 16 * 16 := Nat.mul_le_mul bw.2 bh.2
  have hN0 : 0 < w * h := Nat.mul_pos (by omega) (by omega)
  have hlen := pls_length bw.1 bh.1
  obtain ⟨M1, p, c, k1, k2, k3⟩ := walk_spec w h (by omega) (by omega) M
  obtain ⟨M2, q, d, j1, j2, j3⟩ := order_spec w h (by omega) (by omega) M1
  rw [hlen] at k1 k2 j1 j2
  obtain ⟨a, rfl, ha⟩ := k2.pos hN0
  obtain ⟨b, rfl, hb⟩ := j2.pos hN0
  have e1 : IntKind.wrap .i64 ((w : Int) * (h : Int)) = ((w * h : Nat) : Int) := by rw [show (w : Int) * (h : Int) = ((w * h : Nat) : Int) by simp]; exact w64 (by omega)
  have c1 : (0 : Int) ≤ ((w * h : Nat) : Int) ∧ ((w * h : Nat) : Int) ≤ ((w * h : Nat) : Int) ∧ ((w * h : Nat) : Int) ≤ 140737488355328 ∧ ((w * h : Nat) : Int) * 8 ≤ 140737488355328 := by omega
  have z0 : List.replicate (w * h) (Value.int .i64 0) = ints .i64 (cnts (w * h) (((pls w h).map (pix w)).take 0)) := by
    have : cnts (w * h) [] = List.replicate (w * h) 0 := by
      refine List.ext_getElem (by simp [cnts]) fun j h1 h2 => by simp [cnts]
    rw [List.take_zero, this]; simp [ints]
  have g9 := cells_new M2 (ints .i64 (cnts (w * h) (((pls w h).map (pix w)).take 0))) 0
  have s9 := same_app M2 [AObj.cells (ints .i64 (cnts (w * h) (((pls w h).map (pix w)).take 0))) ⟨false, 0⟩]
  have la := (ha.same j3 (by simp))
  obtain ⟨M3, l1, l2⟩ := once46_loop (c := c) (d := d) bw bh (x9 := M2.length) (a := a) (b := b) ⟨by have := la.lt; omega, by have := hb.lt; omega⟩ (w * h) 0 _ (by omega) (la.rd.same s9 (by simp)) (hb.rd.same s9 (by simp)) g9
  obtain ⟨M', m1⟩ := met_loop (x9 := M2.length) (by omega) (cnts_len _ _) (fun k hk => by
    rw [cnts_get hk, count_one (pls_nodup bw.1 bh.1) (pls_all bw.1 bh.1 k hk)]; rfl) l2.rd (w * h) 0 (by omega)
  refine ⟨M', ?_⟩
  simp only [k1, j1, Option.bind_some, sliceOf_slice, e1, ofN, bne_self_eq_false, Bool.false_eq_true, if_false, c1, and_self, if_true, Int.toNat_natCast, z0]
  exact l1.trans ((P10_41_eq ..).trans m1)

open Go.ChangeShapes Go.WideShapes Go.ChangeAt Go.RowKit

theorem monce_main (A : AMem) (vs : List Value) (h : HoldsA A [(false, [.int .u8]), (false, [.int .u8])] vs) : ∃ A', (lim env).call 10 vs A = some (.bool true, A') := by
  simp only [HoldsA, HoldsV, HoldsL, Holds, Bool.false_eq_true, if_false] at h
  obtain ⟨_, _, rfl, ⟨_, _, e1, ⟨x, rfl, hx⟩, rfl⟩, _, _, rfl, ⟨_, _, e2, ⟨y, rfl, hy⟩, rfl⟩, rfl⟩ := h
  cases e1; cases e2
  have bx := bounds_u8 hx; have by' := bounds_u8 hy
  have := monce_law x.toNat y.toNat (by omega) (by omega) A
  rw [LL_lim, Int.toNat_of_nonneg (by omega), Int.toNat_of_nonneg (by omega)] at this
  exact this

theorem mortonOnce_lifted (os : Os) (started : os.Started) (H : Type) (enc : TypeId × Value → H) :
    ReturnsInHanded {} Try.checked os 10 .any (Rows.mortonOnceSpec.pre6 enc Try.prog Try.f10 Rows.mortonOnceRow.domain false) (Rows.mortonOnceSpec.post enc Try.prog Try.f10 false true false false) :=
  lifted_of_args (C := Try.checked) (E := env) (by kernel_rfl) started (by kernel_rfl) Try.func10
    (ChangeSpec.witness6 (enc := enc) (C := Try.checked) false ⟨#[], #[.int .u8 0, .int .u8 0], []⟩ 8 (by kernel_rfl) (by kernel_rfl) (by kernel_rfl) (by kernel_rfl))
    (by kernel_rfl) (by kernel_rfl) (by kernel_rfl : Try.f10.resultTypes = #[4]) (by kernel_rfl) rfl
    (fun ds hd => by
      match ds, hd with
      | [d1, d2], _ => rfl) envOk (by kernel_rfl) (by kernel_rfl) monce_main

theorem mortonOnce_holds : Rows.MortonOnceSaid :=
  OpenClaim.holds_of_wide 10 Try.f10 rfl rfl rfl rfl rfl rfl rfl ⟨rfl, rfl, rfl, rfl, rfl⟩ rfl rfl rfl rfl rfl (by kernel_rfl) Try.func10 (by kernel_rfl)
    (of_decide_eq_true (by kernel_rfl)) (by unfold Func.isWrapper; rw [if_neg (of_decide_eq_false (by kernel_rfl))]; exact ⟨rfl, rfl⟩)
    (fun os started H enc _ => mortonOnce_lifted os started H enc)


end Go.Proofs.Ytaepdefnomcllaa
