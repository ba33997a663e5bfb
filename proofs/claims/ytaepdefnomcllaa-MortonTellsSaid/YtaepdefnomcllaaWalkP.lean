/- The walk over a picture, as places. -/
import Derived.Test.YtaepdefnomcllaaPlsLaw
set_option linter.unusedVariables false
set_option linter.unusedSimpArgs false
namespace Go.Proofs.Ytaepdefnomcllaa
open Go Go.Ax

def encP (q : Nat × Nat) : List Value := [.int .i64 (q.1 : Int), .int .i64 (q.2 : Int)]
theorem encP_len (q : Nat × Nat) : (encP q).length = 2 := rfl

structure WI (M0 : AMem) (l x5 c1 c2 w h : Nat) (r : ALoop) (a : List (Nat × Nat)) (M : AMem) : Prop where
  bc1 : Rd M c1 [.int .i64 (w : Int)]
  bc2 : Rd M c2 [.int .i64 (h : Int)]
  blp : M[l]? = some (.loop r)
  bout : ∃ p c, Cells M x5 [.slice p a.length c] ∧ Slc M 2 p a.length c (a.flatMap encP) ∧ (∀ b ∈ blk p, x5 < b ∧ l < b)
  bsame : Same M0 M []
  bne : x5 < c1 ∧ c1 < c2 ∧ c2 < l ∧ M0.length ≤ x5

theorem walk_step {M0 : AMem} {l x5 c1 c2 w h x4 : Nat} {u : Value} (a : List (Nat × Nat)) (x y : Nat) (M : AMem)
    (hI : WI M0 l x5 c1 c2 w h (lo44_16 .ready none x4 x5 u) a M) (ha : a.length < 65536) :
    ∃ M', LL.round l [.int .i64 (x : Int), .int .i64 (y : Int)] M = some (.bool true, M') ∧ WI M0 l x5 c1 c2 w h (lo44_16 .ready none x4 x5 u) (a ++ [(x, y)]) M' := by
  obtain ⟨oc1, oc2, olp, ⟨p, c, o1, o2, o3⟩, os, one⟩ := hI
  have hl := lt_of_get olp
  rw [R44_16 LL L_rnd l x4 x5 u _ _ M none olp, P44_16_eq]
  have s1 := same_set M l (.loop (lo44_16 .busy none x4 x5 u))
  have lp1 : (M.set l (.loop (lo44_16 .busy none x4 x5 u)))[l]? = some (.loop (lo44_16 .busy none x4 x5 u)) := get_set_self olp
  have len1 : (M.set l (.loop (lo44_16 .busy none x4 x5 u))).length = M.length := by simp
  generalize hM1 : M.set l (.loop (lo44_16 .busy none x4 x5 u)) = M1 at s1 lp1 len1
  have o1' := o1.same s1 (by simp; omega)
  have o2' := o2.same s1 (fun b hb => by have := o3 b hb; simp; omega)
  obtain ⟨M2, g1, g2, g3⟩ := grn_row (bytes := 16) (new := [.int .i64 (x : Int), .int .i64 (y : Int)]) (m := 1) (v := 0) o2' rfl (by omega) (by omega)
  have o1'' := o1'.same g3.same (fun hb => by have := o3 _ hb; omega)
  obtain ⟨M3, w1, w2, w3, _⟩ := o1''.wr (o := 0) (vs := [.slice (some ⟨M1.length + 1, 0, none⟩) (a.length + 1) 2]) (by simp)
  simp only [wrL, List.set_cons_zero] at w2
  have lp3 : M3[l]? = some (.loop (lo44_16 .busy none x4 x5 u)) := w3.at (g3.same.at lp1 (fun hb => by have := o3 _ hb; omega)) (by simp; omega)
  have s4 := same_set M3 l (.loop (lo44_16 .ready none x4 x5 u))
  have hrow := rowOf_new M1 2 1 [.int .i64 (x : Int), .int .i64 (y : Int)] 0 2 rfl
  refine ⟨M3.set l (.loop (lo44_16 .ready none x4 x5 u)), ?_, ?_⟩
  · simp only [o1'.ld, get0, sliceOf_slice, Option.bind_some, hrow, g1, w1]
    exact roundK_normal lp3
  · have keep : ∀ {b : Nat} {cs : List Value}, Rd M b cs → x5 < b ∧ b < l → Rd (M3.set l (.loop (lo44_16 .ready none x4 x5 u))) b cs := fun hb hlt =>
      (((hb.same s1 (by simp; omega)).same g3.same (fun hm => by have := o3 _ hm; omega)).same w3 (by simp; omega)).same s4 (by simp; omega)
    have hM0 := os.le
    refine ⟨keep oc1 (by omega), keep oc2 (by omega), get_set_self lp3, ⟨some ⟨M1.length + 1, 0, none⟩, 2, ?_, ?_, ?_⟩, ?_, one⟩
    · rw [List.length_append]; exact w2.same s4 (by simp; omega)
    · rw [List.length_append, List.flatMap_append]
      exact (g2.same w3 (by have := o1''.lt; have := o1'.lt; simp; omega)).same s4 (by simp; omega)
    · simp; have := o1.lt; omega
    · refine ((((os.trans s1).trans g3.same).trans w3).trans s4).mono' fun b hb hlt => ?_
      simp at hb
      rcases hb with hb | hb | hb | hb
      · omega
      · have := o3 _ hb; omega
      · omega
      · omega

theorem walk_spec (w h : Nat) (hw : 1 ≤ w ∧ w ≤ 256) (hh : 1 ≤ h ∧ h ≤ 256) (M : AMem) :
    ∃ M' p c, LL.call 44 [.int .i64 (w : Int), .int .i64 (h : Int)] M = some (.slice p (pls w h).length c, M') ∧ Slc M' 2 p (pls w h).length c ((pls w h).flatMap encP) ∧ Same M M' [] := by
  rw [L_call44, E44]
  have h1 := mgiven_spec w h
  have hg : decide ((1 ≤ (w : Int) ∧ (w : Int) ≤ 256) ∧ (1 ≤ (h : Int) ∧ (h : Int) ≤ 256)) = true := decide_eq_true (by omega)
  rw [hg] at h1
  have g1 := cells_new M [.slice none 0 0] 0
  have s1 := same_app M [AObj.cells [.slice none 0 0] ⟨false, 0⟩]
  have l1 : (M ++ [AObj.cells [.slice none 0 0] ⟨false, 0⟩]).length = M.length + 1 := by simp
  generalize M ++ [AObj.cells [.slice none 0 0] ⟨false, 0⟩] = M1 at g1 s1 l1
  have hp := mplaces_spec w h M1
  have q1 := cells_new M1 [.int .i64 (w : Int)] 0
  have t1 := same_app M1 [AObj.cells [.int .i64 (w : Int)] ⟨false, 0⟩]
  have l2 : (M1 ++ [AObj.cells [.int .i64 (w : Int)] ⟨false, 0⟩]).length = M1.length + 1 := by simp
  generalize M1 ++ [AObj.cells [.int .i64 (w : Int)] ⟨false, 0⟩] = M2 at hp q1 t1 l2
  have q2 := cells_new M2 [.int .i64 (h : Int)] 0
  have t2 := same_app M2 [AObj.cells [.int .i64 (h : Int)] ⟨false, 0⟩]
  have l3 : (M2 ++ [AObj.cells [.int .i64 (h : Int)] ⟨false, 0⟩]).length = M2.length + 1 := by simp
  generalize M2 ++ [AObj.cells [.int .i64 (h : Int)] ⟨false, 0⟩] = M3 at hp q2 t2 l3
  simp only [Option.bind_some, h1, boolOf_bool, Bool.not_true, Bool.false_eq_true, if_false, hp, anyOf?, leafV, if_true, funK_func, List.nil_append, List.cons_append]
  generalize hu : (Value.func (.func 58) #[] #[pt M1.length, pt (M1.length + 1)]) = u
  have t3 := same_app M3 [AObj.loop (lo44_16 .ready none 0 M.length u)]
  have lp : (M3 ++ [AObj.loop (lo44_16 .ready none 0 M.length u)])[M3.length]? = some (.loop (lo44_16 .ready none 0 M.length u)) := get_new _ _
  obtain ⟨M4, k1, k2⟩ := places_spec M3.length M1.length (M1.length + 1) w h hw hh
    (fun a M' => WI M M3.length M.length M1.length (M1.length + 1) w h (lo44_16 .ready none 0 M.length u) a M')
    (fun a M' hI => ⟨hI.bc1, hI.bc2⟩) (fun a x y M' hI hx hy ha => walk_step a x y M' hI ha) (M3 ++ [AObj.loop (lo44_16 .ready none 0 M.length u)])
    ⟨((q1.same t2 (by simp)).same t3 (by simp)).rd, by have := (q2.same t3 (by simp)).rd; rwa [l2] at this, lp,
      ⟨none, 0, ((g1.same t1 (by simp)).same t2 (by simp)).same t3 (by simp), .nil _ _ _, by simp⟩, (((s1.trans t1).trans t2).trans t3).mono (by simp), by omega⟩
  obtain ⟨oc1, oc2, olp, ⟨p, c, o1, o2, o3⟩, os, one⟩ := k2
  have s5 := same_set M4 M3.length .dead
  have o1' := o1.same s5 (by simp; omega)
  refine ⟨M4.set M3.length .dead, p, c, ?_, o2.same s5 (fun b hb => by have := o3 b hb; simp; omega), (os.trans s5).mono' (by simp; omega)⟩
  rw [k1]
  simp only [Option.bind_some]
  rw [rangeK_normal olp (by simp [lo44_16]) rfl, P44_22_eq]
  simp only [o1'.ld, get0, sliceOf_slice, Option.bind_some]

theorem walk_none (w h : Int) (hn : ¬ ((1 ≤ w ∧ w ≤ 256) ∧ (1 ≤ h ∧ h ≤ 256))) (M : AMem) : LL.call 44 [.int .i64 w, .int .i64 h] M = some (.slice none 0 0, M) := by
  rw [L_call44, E44]
  have h1 := mgiven_spec w h
  rw [decide_eq_false hn] at h1
  simp only [Option.bind_some, h1, boolOf_bool, Bool.not_false, if_true]

end Go.Proofs.Ytaepdefnomcllaa
