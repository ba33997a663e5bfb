/- The walk over a picture's places. -/
import Derived.Test.YtaepdefnomcllaaMorton
set_option linter.unusedVariables false
set_option linter.unusedSimpArgs false
namespace Go.Proofs.Ytaepdefnomcllaa
open Go Go.Ax

abbrev pt (b : Nat) : Value := .pointer (some ⟨b, 0, none⟩)

theorem L_rnd : ∀ (l : Nat) (args : List Value) (A : AMem), LL.round l args A = roundF LL l args A := L_round

/-- The places of a picture among d numbers from n on. -/
def pl (w h : Nat) : Nat → Nat → List (Nat × Nat)
  | 0, _ => []
  | d + 1, n => if gat n < w ∧ gat (n / 2) < h then (gat n, gat (n / 2)) :: pl w h d (n + 1) else pl w h d (n + 1)

theorem pl_len (w h : Nat) : ∀ (d n : Nat), (pl w h d n).length ≤ d
  | 0, n => Nat.le_refl _
  | d + 1, n => by
    unfold pl
    have := pl_len w h d (n + 1)
    split
    · simp; omega
    · omega

theorem mor_small {x y : Nat} (hx : x < 256) (hy : y < 256) : mor x y < 65536 := by
  have := mor_div 8 x y
  rw [show x / 2 ^ 8 = 0 by omega, show y / 2 ^ 8 = 0 by omega] at this
  have h0 : mor 0 0 = 0 := by simp [mor, spr]
  omega

theorem backI_nat {n : Nat} (h : n < 4294967296) : backI (n : Int) = (((gat n : Nat) : Int), ((gat (n / 2) : Nat) : Int)) := by
  unfold backI
  rw [if_pos (by omega), Int.toNat_natCast]

theorem places_loop (l c1 c2 w h E : Nat) (hE : E < 65536) (I : List (Nat × Nat) → AMem → Prop) (hc : ∀ a M, I a M → Rd M c1 [.int .i64 (w : Int)] ∧ Rd M c2 [.int .i64 (h : Int)])
    (hstep : ∀ a (x y : Nat) M, I a M → x < w → y < h → a.length < 65536 → ∃ M', LL.round l [.int .i64 (x : Int), .int .i64 (y : Int)] M = some (.bool true, M') ∧ I (a ++ [(x, y)]) M') :
    ∀ (d n : Nat) (a : List (Nat × Nat)) (M : AMem), n + d = E + 1 → a.length ≤ n → I a M →
    ∃ M', P58_5 LL l c1 c2 E n M = some (.tuple #[], M') ∧ I (a ++ pl w h d n) M' := by
  intro d
  induction d with
  | zero =>
    intro n a M hn ha hI
    rw [P58_5_eq LL L_loop]
    refine ⟨M, ?_, by simpa [pl] using hI⟩
    by_cases c : (n : Int) < 65536
    · have : (n : Int) > (E : Int) := by omega
      simp only [c, this, decide_true, if_true]
    · simp only [c, decide_false, Bool.false_eq_true, if_false]
  | succ d ih =>
    intro n a M hn ha hI
    rw [P58_5_eq LL L_loop]
    have c1' : (n : Int) < 65536 := by omega
    have c2' : ¬ (n : Int) > (E : Int) := by omega
    obtain ⟨_, h1⟩ := mback_spec n
    rw [backI_nat (by omega)] at h1
    obtain ⟨r1, r2⟩ := hc a M hI
    have hw : IntKind.wrap .i64 ((n : Int) + 1) = ((n + 1 : Nat) : Int) := by rw [w64 (by omega)]; rfl
    simp only [c1', c2', decide_true, decide_false, Bool.false_eq_true, if_false, if_true, h1, Option.bind_some, tup2, get0, get1, intOf_int, r1.ld, r2.ld]
    unfold pl
    by_cases q1 : gat n < w
    · have q1' : ((gat n : Nat) : Int) < (w : Int) := by omega
      by_cases q2 : gat (n / 2) < h
      · have q2' : ((gat (n / 2) : Nat) : Int) < (h : Int) := by omega
        obtain ⟨M1, s1, s2⟩ := hstep a (gat n) (gat (n / 2)) M hI q1 q2 (by omega)
        obtain ⟨M', k1, k2⟩ := ih (n + 1) _ M1 (by omega) (by simp; omega) s2
        refine ⟨M', ?_, by rw [if_pos ⟨q1, q2⟩]; simpa using k2⟩
        simp only [q1', q2', decide_true, if_true, s1, Option.bind_some, boolOf_bool, Bool.not_true, Bool.false_eq_true, if_false, P58_29_eq, hw]
        exact k1
      · have q2' : ¬ ((gat (n / 2) : Nat) : Int) < (h : Int) := by omega
        obtain ⟨M', k1, k2⟩ := ih (n + 1) a M (by omega) (by omega) hI
        refine ⟨M', ?_, by rw [if_neg (fun hh => q2 hh.2)]; exact k2⟩
        simp only [q1', q2', decide_true, decide_false, Bool.false_eq_true, if_false, if_true, P58_29_eq, hw]
        exact k1
    · have q1' : ¬ ((gat n : Nat) : Int) < (w : Int) := by omega
      obtain ⟨M', k1, k2⟩ := ih (n + 1) a M (by omega) (by omega) hI
      refine ⟨M', ?_, by rw [if_neg (fun hh => q1 hh.1)]; exact k2⟩
      simp only [q1', decide_false, Bool.false_eq_true, if_false, P58_29_eq, hw]
      exact k1

/-- All places of a picture, by their numbers. -/
def pls (w h : Nat) : List (Nat × Nat) := pl w h (mor (w - 1) (h - 1) + 1) 0

theorem places_spec (l c1 c2 w h : Nat) (hw : 1 ≤ w ∧ w ≤ 256) (hh : 1 ≤ h ∧ h ≤ 256) (I : List (Nat × Nat) → AMem → Prop) (hc : ∀ a M, I a M → Rd M c1 [.int .i64 (w : Int)] ∧ Rd M c2 [.int .i64 (h : Int)])
    (hstep : ∀ a (x y : Nat) M, I a M → x < w → y < h → a.length < 65536 → ∃ M', LL.round l [.int .i64 (x : Int), .int .i64 (y : Int)] M = some (.bool true, M') ∧ I (a ++ [(x, y)]) M') (M : AMem) (hI : I [] M) :
    ∃ M', LL.call 58 [.func (.yield l) #[] #[], pt c1, pt c2] M = some (.tuple #[], M') ∧ I (pls w h) M' := by
  rw [L_call58, E58]
  obtain ⟨r1, r2⟩ := hc _ M hI
  have e1 : IntKind.wrap .i64 ((w : Int) - 1) = ((w - 1 : Nat) : Int) := by rw [w64 (by omega)]; omega
  have e2 : IntKind.wrap .i64 ((h : Int) - 1) = ((h - 1 : Nat) : Int) := by rw [w64 (by omega)]; omega
  obtain ⟨_, h1⟩ := mof_spec ((w - 1 : Nat) : Int) ((h - 1 : Nat) : Int)
  have e3 : ofI ((w - 1 : Nat) : Int) ((h - 1 : Nat) : Int) = ((mor (w - 1) (h - 1) : Nat) : Int) := by
    rw [ofI, if_pos (by unfold inB; omega), Int.toNat_natCast, Int.toNat_natCast]
  rw [e3] at h1
  obtain ⟨M', k1, k2⟩ := places_loop l c1 c2 w h (mor (w - 1) (h - 1)) (mor_small (by omega) (by omega)) I hc hstep (mor (w - 1) (h - 1) + 1) 0 [] M (by omega) (by simp) hI
  refine ⟨M', ?_, by simpa [pls] using k2⟩
  simp only [r1.ld, r2.ld, get0, intOf_int, Option.bind_some, e1, e2, h1]
  exact k1

theorem mgiven_spec (w h : Int) : LL.call 56 [.int .i64 w, .int .i64 h] [] = some (.bool (decide ((1 ≤ w ∧ w ≤ 256) ∧ (1 ≤ h ∧ h ≤ 256))), []) := by
  rw [L_call56, E56]
  by_cases c1 : (if h < w then h else w) ≥ 1
  · simp only [c1, decide_true, if_true]
    congr 3
    rw [decide_eq_decide]
    split at c1 <;> split <;> omega
  · simp only [c1, decide_false, Bool.false_eq_true, if_false]
    congr 3
    symm
    refine decide_eq_false ?_
    split at c1 <;> omega

theorem mplaces_spec (w h : Int) (M : AMem) : LL.call 57 [.int .i64 w, .int .i64 h] M =
    some (.func (.func 58) #[] #[pt M.length, pt (M.length + 1)], M ++ [AObj.cells [.int .i64 w] ⟨false, 0⟩] ++ [AObj.cells [.int .i64 h] ⟨false, 0⟩]) := by
  rw [L_call57, E57]
  simp

/-- What stands while the pixels are gathered. -/
structure OI (M0 : AMem) (l x2 x5 c1 c2 w h esz : Nat) (r : ALoop) (enc : Nat × Nat → List Value) (a : List (Nat × Nat)) (M : AMem) : Prop where
  bw : Cells M x2 [.int .i64 (w : Int)]
  bc1 : Rd M c1 [.int .i64 (w : Int)]
  bc2 : Rd M c2 [.int .i64 (h : Int)]
  blp : M[l]? = some (.loop r)
  bout : ∃ p c, Cells M x5 [.slice p a.length c] ∧ Slc M esz p a.length c (a.flatMap enc) ∧ (∀ b ∈ blk p, x5 < b ∧ l < b)
  bsame : Same M0 M []
  bne : x2 < x5 ∧ x5 < c1 ∧ c1 < c2 ∧ c2 < l ∧ M0.length ≤ x2

theorem order_step {M0 : AMem} {l x2 x5 c1 c2 w h x4 : Nat} {u : Value} (hw : w ≤ 256) (hh : h ≤ 256) (a : List (Nat × Nat)) (x y : Nat) (M : AMem)
    (hI : OI M0 l x2 x5 c1 c2 w h 1 (lo46_16 .ready none x2 x4 x5 u) (fun p => [.int .i64 ((p.2 * w + p.1 : Nat) : Int)]) a M) (hx : x < w) (hy : y < h) (ha : a.length < 65536) :
    ∃ M', LL.round l [.int .i64 (x : Int), .int .i64 (y : Int)] M = some (.bool true, M') ∧
      OI M0 l x2 x5 c1 c2 w h 1 (lo46_16 .ready none x2 x4 x5 u) (fun p => [.int .i64 ((p.2 * w + p.1 : Nat) : Int)]) (a ++ [(x, y)]) M' := by
  obtain ⟨ow, oc1, oc2, olp, ⟨p, c, o1, o2, o3⟩, os, one⟩ := hI
  have hl := lt_of_get olp
  rw [R46_16 LL L_rnd l x2 x4 x5 u _ _ M none olp, P46_16_eq]
  have s1 := same_set M l (.loop (lo46_16 .busy none x2 x4 x5 u))
  have lp1 : (M.set l (.loop (lo46_16 .busy none x2 x4 x5 u)))[l]? = some (.loop (lo46_16 .busy none x2 x4 x5 u)) := get_set_self olp
  have len1 : (M.set l (.loop (lo46_16 .busy none x2 x4 x5 u))).length = M.length := by simp
  generalize hM1 : M.set l (.loop (lo46_16 .busy none x2 x4 x5 u)) = M1 at s1 lp1 len1
  have o1' := o1.same s1 (by simp; omega)
  have o2' := o2.same s1 (fun b hb => by have := o3 b hb; simp; omega)
  have ow' := ow.same s1 (by simp; omega)
  have hyw : y * w ≤ 256 * 256 := Nat.mul_le_mul (by omega) hw
  have e1 : IntKind.wrap .i64 (IntKind.wrap .i64 ((y : Int) * (w : Int)) + (x : Int)) = ((y * w + x : Nat) : Int) := by
    rw [show (y : Int) * (w : Int) = ((y * w : Nat) : Int) by simp, w64 (n := ((y * w : Nat) : Int)) (by omega), w64 (by omega)]; simp
  obtain ⟨M2, g1, g2, g3⟩ := grn_row (bytes := 8) (new := [.int .i64 ((y * w + x : Nat) : Int)]) (m := 1) (v := 0) o2' rfl (by omega) (by omega)
  have o1'' := o1'.same g3.same (fun hb => by have := o3 _ hb; omega)
  obtain ⟨M3, w1, w2, w3, _⟩ := o1''.wr (o := 0) (vs := [.slice (some ⟨M1.length + 1, 0, none⟩) (a.length + 1) 1]) (by simp)
  simp only [wrL, List.set_cons_zero] at w2
  have lp3 : M3[l]? = some (.loop (lo46_16 .busy none x2 x4 x5 u)) := w3.at (g3.same.at lp1 (fun hb => by have := o3 _ hb; omega)) (by simp; omega)
  have s4 := same_set M3 l (.loop (lo46_16 .ready none x2 x4 x5 u))
  have hrow := rowOf_new M1 1 1 [.int .i64 ((y * w + x : Nat) : Int)] 0 1 rfl
  refine ⟨M3.set l (.loop (lo46_16 .ready none x2 x4 x5 u)), ?_, ?_⟩
  · simp only [o1'.ld, get0, sliceOf_slice, Option.bind_some, ow'.ld, intOf_int, e1, hrow, g1, w1]
    exact roundK_normal lp3
  · have keep : ∀ {b : Nat} {cs : List Value}, Rd M b cs → b < x5 ∨ (x5 < b ∧ b < l) → Rd (M3.set l (.loop (lo46_16 .ready none x2 x4 x5 u))) b cs := fun hb hlt =>
      (((hb.same s1 (by simp; omega)).same g3.same (fun hm => by have := o3 _ hm; omega)).same w3 (by simp; omega)).same s4 (by simp; omega)
    have hM0 := os.le
    refine ⟨?_, keep oc1 (by omega), keep oc2 (by omega), get_set_self lp3, ⟨some ⟨M1.length + 1, 0, none⟩, 1, ?_, ?_, ?_⟩, ?_, one⟩
    · exact (((ow.same s1 (by simp; omega)).same g3.same (fun hm => by have := o3 _ hm; omega)).same w3 (by simp; omega)).same s4 (by simp; omega)
    · rw [List.length_append]; exact w2.same s4 (by simp; omega)
    · rw [List.length_append, List.flatMap_append]
      exact (g2.same w3 (by have := o1''.lt; have := o1'.lt; simp; omega)).same s4 (by simp; omega)
    · simp; have := o1.lt; omega
    · refine ((((os.trans s1).trans g3.same).trans w3).trans s4).mono' fun b hb hlt => ?_
      simp at hb
      rcases hb with hb | hb | hb | hb
      · omega
      · have := o3 _ hb; omega
      · omega
      · omega

theorem order_spec (w h : Nat) (hw : 1 ≤ w ∧ w ≤ 256) (hh : 1 ≤ h ∧ h ≤ 256) (M : AMem) :
    ∃ M' p c, LL.call 46 [.int .i64 (w : Int), .int .i64 (h : Int)] M = some (.slice p (pls w h).length c, M') ∧
      Slc M' 1 p (pls w h).length c ((pls w h).flatMap fun p => [.int .i64 ((p.2 * w + p.1 : Nat) : Int)]) ∧ Same M M' [] := by
  rw [L_call46, E46]
  have h1 := mgiven_spec w h
  have hg : decide ((1 ≤ (w : Int) ∧ (w : Int) ≤ 256) ∧ (1 ≤ (h : Int) ∧ (h : Int) ≤ 256)) = true := decide_eq_true (by omega)
  rw [hg] at h1
  have g0 := cells_new M [.int .i64 (w : Int)] 0
  have s0 := same_app M [AObj.cells [.int .i64 (w : Int)] ⟨false, 0⟩]
  have l0 : (M ++ [AObj.cells [.int .i64 (w : Int)] ⟨false, 0⟩]).length = M.length + 1 := by simp
  generalize M ++ [AObj.cells [.int .i64 (w : Int)] ⟨false, 0⟩] = M0 at g0 s0 l0
  have g1 := cells_new M0 [.slice none 0 0] 0
  have s1 := same_app M0 [AObj.cells [.slice none 0 0] ⟨false, 0⟩]
  have g0' := g0.same s1 (by simp)
  have l1 : (M0 ++ [AObj.cells [.slice none 0 0] ⟨false, 0⟩]).length = M0.length + 1 := by simp
  generalize M0 ++ [AObj.cells [.slice none 0 0] ⟨false, 0⟩] = M1 at g1 s1 g0' l1
  have hp := mplaces_spec w h M1
  have q1 := cells_new M1 [.int .i64 (w : Int)] 0
  have t1 := same_app M1 [AObj.cells [.int .i64 (w : Int)] ⟨false, 0⟩]
  have l2 : (M1 ++ [AObj.cells [.int .i64 (w : Int)] ⟨false, 0⟩]).length = M1.length + 1 := by simp
  generalize M1 ++ [AObj.cells [.int .i64 (w : Int)] ⟨false, 0⟩] = M2 at hp q1 t1 l2
  have q2 := cells_new M2 [.int .i64 (h : Int)] 0
  have t2 := same_app M2 [AObj.cells [.int .i64 (h : Int)] ⟨false, 0⟩]
  have l3 : (M2 ++ [AObj.cells [.int .i64 (h : Int)] ⟨false, 0⟩]).length = M2.length + 1 := by simp
  generalize M2 ++ [AObj.cells [.int .i64 (h : Int)] ⟨false, 0⟩] = M3 at hp q2 t2 l3
  simp only [g0.ld, g0'.ld, get0, intOf_int, Option.bind_some, h1, boolOf_bool, Bool.not_true, Bool.false_eq_true, if_false, hp, anyOf?, leafV, if_true, funK_func, List.nil_append, List.cons_append]
  generalize hu : (Value.func (.func 58) #[] #[pt M1.length, pt (M1.length + 1)]) = u
  have t3 := same_app M3 [AObj.loop (lo46_16 .ready none M.length 0 M0.length u)]
  have lp : (M3 ++ [AObj.loop (lo46_16 .ready none M.length 0 M0.length u)])[M3.length]? = some (.loop (lo46_16 .ready none M.length 0 M0.length u)) := get_new _ _
  obtain ⟨M4, k1, k2⟩ := places_spec M3.length M1.length (M1.length + 1) w h hw hh
    (fun a M' => OI M M3.length M.length M0.length M1.length (M1.length + 1) w h 1 (lo46_16 .ready none M.length 0 M0.length u) (fun p => [.int .i64 ((p.2 * w + p.1 : Nat) : Int)]) a M')
    (fun a M' hI => ⟨hI.bc1, hI.bc2⟩) (fun a x y M' hI hx hy ha => order_step hw.2 hh.2 a x y M' hI hx hy ha) (M3 ++ [AObj.loop (lo46_16 .ready none M.length 0 M0.length u)])
    ⟨(((g0'.same t1 (by simp)).same t2 (by simp)).same t3 (by simp)), ((q1.same t2 (by simp)).same t3 (by simp)).rd, by have := (q2.same t3 (by simp)).rd; rwa [l2] at this, lp,
      ⟨none, 0, ((g1.same t1 (by simp)).same t2 (by simp)).same t3 (by simp), .nil _ _ _, by simp⟩, ((((s0.trans s1).trans t1).trans t2).trans t3).mono (by simp), by omega⟩
  obtain ⟨ow, oc1, oc2, olp, ⟨p, c, o1, o2, o3⟩, os, one⟩ := k2
  have s5 := same_set M4 M3.length .dead
  have o1' := o1.same s5 (by simp; omega)
  refine ⟨M4.set M3.length .dead, p, c, ?_, o2.same s5 (fun b hb => by have := o3 b hb; simp; omega), (os.trans s5).mono' (by simp; omega)⟩
  rw [k1]
  simp only [Option.bind_some]
  rw [rangeK_normal olp (by simp [lo46_16]) rfl, P46_22_eq]
  simp only [o1'.ld, get0, sliceOf_slice, Option.bind_some]

theorem order_none (w h : Int) (hn : ¬ ((1 ≤ w ∧ w ≤ 256) ∧ (1 ≤ h ∧ h ≤ 256))) (M : AMem) : ∃ M', LL.call 46 [.int .i64 w, .int .i64 h] M = some (.slice none 0 0, M') ∧ Same M M' [] := by
  rw [L_call46, E46]
  have h1 := mgiven_spec w h
  rw [decide_eq_false hn] at h1
  have g0 := cells_new M [.int .i64 w] 0
  have s0 := same_app M [AObj.cells [.int .i64 w] ⟨false, 0⟩]
  simp only [g0.ld, get0, intOf_int, Option.bind_some, h1, boolOf_bool, Bool.not_false, if_true]
  exact ⟨_, rfl, s0⟩

end Go.Proofs.Ytaepdefnomcllaa
