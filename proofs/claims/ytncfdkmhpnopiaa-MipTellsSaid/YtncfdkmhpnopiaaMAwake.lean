/- The example of the laws on halves. -/
import Derived.Test.YtncfdkmhpnopiaaMipY
import Derived.Test.YtncfdkmhpnopiaaEqAwake51
set_option linter.unusedVariables false
set_option linter.unusedSimpArgs false
namespace Go.Proofs.Ytncfdkmhpnopiaa
open Go Go.Ax

def exL : List Px := [⟨10, 0, 0⟩, ⟨20, 0, 0⟩]

theorem awake51 : ∃ M, LL.call 7 [] [] = some (.bool true, M) := by
  rw [L_call7, E7]
  generalize hA : ([AObj.cells [.int .i64 10, .int .i64 0, .int .i64 0, .int .i64 20, .int .i64 0, .int .i64 0] ⟨false, 0⟩, AObj.cells [.int .i64 2, .int .i64 1, .slice (some ⟨0, 0, none⟩) 2 3] ⟨false, 1⟩] : AMem) = A
  have r0 : RdL A encP (some ⟨0, 0, none⟩) exL.length exL := ⟨rfl, fun _ => ⟨0, rfl, ⟨⟨false, 0⟩, by rw [← hA]; rfl⟩⟩⟩
  have r1 : Rd A 1 [.int .i64 2, .int .i64 1, .slice (some ⟨0, 0, none⟩) exL.length 3] := ⟨⟨false, 1⟩, by rw [← hA]; rfl⟩
  have hl : exL.length = 2 := rfl
  have hfit : PFit 2 1 exL := by decide
  obtain ⟨M1, z, e1, z1, s1, hz⟩ := (half_spec (W := 2) (H := 1) (cp := 3) (l := exL) (by rw [hl]; omega) r0).1 hfit
  have h21 : halfL (Int.toNat 2) (Int.toNat 1) exL = [⟨15, 0, 0⟩] := by decide
  have hw : hf (Int.toNat 2) = 1 := rfl
  have hh : hf (Int.toNat 1) = 1 := rfl
  rw [h21] at z1
  rw [hw, hh] at e1
  unfold picV at e1
  rw [hl] at e1
  obtain ⟨M6, w1, w2, w3, w4⟩ := wr_new M1 [.int .i64 0, .int .i64 0, .slice none 0 0] [.int .i64 1, .int .i64 1, .slice (some ⟨z, 0, none⟩) 1 3] 0 rfl
  obtain ⟨_, _, a2⟩ := picV_ld w2.rd
  have z6 := z1.same w3 (by simp)
  have p0 : M6.ld z 0 = some (.int .i64 15) := z6.ld 0
  have p1 : M6.ld z 1 = some (.int .i64 0) := z6.ld 1
  have p2 : M6.ld z 2 = some (.int .i64 0) := z6.ld 2
  obtain ⟨_, l1⟩ := levels_spec 5 3
  have hL1 : (if (1 ≤ (5 : Int) ∧ (5 : Int) ≤ 256) ∧ (1 ≤ (3 : Int) ∧ (3 : Int) ≤ 256) then (lev (Int.toNat 5) (Int.toNat 3) : Int) else 0) = 4 := by
    rw [if_pos (by omega)]
    have : lev (Int.toNat 5) (Int.toNat 3) = 4 := by
      rw [show Int.toNat 5 = 5 from rfl, show Int.toNat 3 = 3 from rfl, lev_blen 5 3 (by omega) (by omega)]; rfl
    rw [this]; rfl
  rw [hL1] at l1
  obtain ⟨_, l2⟩ := levels_spec 0 1
  rw [if_neg (by omega)] at l2
  have t6 : Same A M6 [] := (s1.trans w3).mono (by simp)
  obtain ⟨c0, c1, c2⟩ := picV_ld (r1.same t6 (by simp))
  obtain ⟨M7, o, oc, As, e7, o7, q7, m7, s7⟩ := (pyramid_spec (W := 2) (H := 1) (cp := 3) (l := exL) (by rw [hl]; omega) (r0.same t6 (by simp))).1 hfit
  have hAs : As.length = 2 := by
    rw [← List.length_map (f := Tp.pic), m7, pyr_length, show Int.toNat 2 = 2 from rfl, show Int.toNat 1 = 1 from rfl, lev_blen 2 1 (by omega) (by omega)]; rfl
  unfold picV at e7
  rw [hAs] at e7
  obtain ⟨M8, e8, s8⟩ := (half_spec (W := 0) (H := 0) (p := none) (cp := 0) (l := []) (by simp) (M := M7) ⟨rfl, fun h => by simp at h⟩).2 (by decide)
  unfold picV at e8
  rw [show List.length ([] : List Px) = 0 from rfl] at e8
  rw [hl] at c2 e7
  refine ⟨M8, ?_⟩
  have e1' : LL.call 8 [.agg #[.int .i64 2, .int .i64 1, .slice (some ⟨0, 0, none⟩) 2 3]] A = some (.agg #[.int .i64 1, .int .i64 1, .slice (some ⟨z, 0, none⟩) 1 3], M1) := e1
  simp only [↓bX e1', ↓bA3, ↓bI0, ↓bI1, ↓bS2, ↓bX w1, ↓bLS a2]
  have k1 : ((Int.ofNat 1) == (1 : Int)) = true := rfl
  have k2 : (0 : Int) ≤ 0 ∧ 0 < Int.ofNat 1 := by decide
  have k3 : ((15 : Int) == 15 && ((0 : Int) == 0 && (0 : Int) == 0)) = true := rfl
  have k4 : ((4 : Int) == 4) = true := rfl
  have k5 : ((Int.ofNat 2) == (2 : Int)) = true := rfl
  have k6 : ((0 : Int) == 0) = true := rfl
  simp only [k1, ↓ifT, ↓bLS a2, ↓if_pos k2, Nat.zero_add, ↓bLI p0, ↓bLI p1, ↓bLI p2, k3, ↓bX l1, ↓bI, k4, ↓bLI c0, ↓bLI c1, ↓bLS c2, ↓bX e7, ↓bS, k5, ↓bX l2, k6, ↓bX e8, ↓bA3, ↓bI0, ↓bI1, ↓bS2]
  rfl

end Go.Proofs.Ytncfdkmhpnopiaa
