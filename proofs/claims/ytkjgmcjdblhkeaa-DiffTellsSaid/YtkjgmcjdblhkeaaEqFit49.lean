/- What the pieces of some functions come to. -/
import Derived.Test.YtkjgmcjdblhkeaaCode
set_option linter.unusedVariables false
set_option maxRecDepth 100000
namespace Go.Proofs.Ytkjgmcjdblhkeaa
open Go Go.Ax
/-! #### skylightref49.Fit -/
theorem E19 (L : Rec) (x0_0 : Int) (x0_1 : Int) (x0_2 : Option Addr) (x0_2n : Nat) (x0_2c : Nat) (x1_0 : Int) (x1_1 : Int) (x1_2 : Option Addr) (x1_2n : Nat) (x1_2c : Nat) (M : AMem) : enterF L a19 [.agg #[.int .i64 x0_0, .int .i64 x0_1, .slice x0_2 x0_2n x0_2c], .agg #[.int .i64 x1_0, .int .i64 x1_1, .slice x1_2 x1_2n x1_2c]] M =
  (Option.bind (intOf? .i64 (AMem.ld ((M ++ [AObj.cells [.int .i64 x0_0, .int .i64 x0_1, .slice x0_2 x0_2n x0_2c] ⟨false, 0⟩]) ++ [AObj.cells [.int .i64 x1_0, .int .i64 x1_1, .slice x1_2 x1_2n x1_2c] ⟨false, 0⟩]) (List.length M) 0)) fun x_1 =>
    (Option.bind (intOf? .i64 (AMem.ld ((M ++ [AObj.cells [.int .i64 x0_0, .int .i64 x0_1, .slice x0_2 x0_2n x0_2c] ⟨false, 0⟩]) ++ [AObj.cells [.int .i64 x1_0, .int .i64 x1_1, .slice x1_2 x1_2n x1_2c] ⟨false, 0⟩]) (List.length M) 1)) fun x_2 =>
    (Option.bind (sliceOf? (AMem.ld ((M ++ [AObj.cells [.int .i64 x0_0, .int .i64 x0_1, .slice x0_2 x0_2n x0_2c] ⟨false, 0⟩]) ++ [AObj.cells [.int .i64 x1_0, .int .i64 x1_1, .slice x1_2 x1_2n x1_2c] ⟨false, 0⟩]) (List.length M) 2)) fun s_3 =>
    (Option.bind (L.call 26 [.agg #[.int .i64 x_1, .int .i64 x_2, .slice s_3.1 s_3.2.1 s_3.2.2]] ((M ++ [AObj.cells [.int .i64 x0_0, .int .i64 x0_1, .slice x0_2 x0_2n x0_2c] ⟨false, 0⟩]) ++ [AObj.cells [.int .i64 x1_0, .int .i64 x1_1, .slice x1_2 x1_2n x1_2c] ⟨false, 0⟩])) fun r_4 =>
    (Option.bind (boolOf? (some r_4.1)) fun q_5 =>
    (if q_5 = true
    then (Option.bind (intOf? .i64 (AMem.ld r_4.2 (List.length (M ++ [AObj.cells [.int .i64 x0_0, .int .i64 x0_1, .slice x0_2 x0_2n x0_2c] ⟨false, 0⟩])) 0)) fun x_6 =>
      (Option.bind (intOf? .i64 (AMem.ld r_4.2 (List.length (M ++ [AObj.cells [.int .i64 x0_0, .int .i64 x0_1, .slice x0_2 x0_2n x0_2c] ⟨false, 0⟩])) 1)) fun x_7 =>
      (Option.bind (sliceOf? (AMem.ld r_4.2 (List.length (M ++ [AObj.cells [.int .i64 x0_0, .int .i64 x0_1, .slice x0_2 x0_2n x0_2c] ⟨false, 0⟩])) 2)) fun s_8 =>
      (Option.bind (L.call 26 [.agg #[.int .i64 x_6, .int .i64 x_7, .slice s_8.1 s_8.2.1 s_8.2.2]] r_4.2) fun r_9 =>
      (Option.bind (boolOf? (some r_9.1)) fun q_10 =>
      (if q_10 = true
      then (Option.bind (intOf? .i64 (AMem.ld r_9.2 (List.length M) 0)) fun x_11 =>
        (Option.bind (intOf? .i64 (AMem.ld r_9.2 (List.length (M ++ [AObj.cells [.int .i64 x0_0, .int .i64 x0_1, .slice x0_2 x0_2n x0_2c] ⟨false, 0⟩])) 0)) fun x_12 =>
        (if (x_11 == x_12) = true
        then (Option.bind (intOf? .i64 (AMem.ld r_9.2 (List.length M) 1)) fun x_13 =>
          (Option.bind (intOf? .i64 (AMem.ld r_9.2 (List.length (M ++ [AObj.cells [.int .i64 x0_0, .int .i64 x0_1, .slice x0_2 x0_2n x0_2c] ⟨false, 0⟩])) 1)) fun x_14 =>
          some (.bool (x_13 == x_14), r_9.2)))
        else some (.bool false, r_9.2))))
      else some (.bool false, r_9.2)))))))
    else some (.bool false, r_4.2))))))) := by kernel_rfl
/-! #### skylightref49.Root -/
theorem E18 (L : Rec) (x0_0 : Int) (x0_1 : Int) (x0_2 : Int) (x0_3 : Int) (x1 : Int) : enterF L a18 [.agg #[.int .i64 x0_0, .int .i64 x0_1, .int .i64 x0_2, .int .i64 x0_3], .int .i64 x1] [] =
  (if (decide (x0_3 < 0)) = true
    then some (.int .i64 0, ([AObj.cells [.int .i64 x0_0, .int .i64 x0_1, .int .i64 x0_2, .int .i64 x0_3] ⟨false, 0⟩] : AMem))
    else (if (decide (x0_3 > 1099511627776)) = true
      then some (.int .i64 0, ([AObj.cells [.int .i64 x0_0, .int .i64 x0_1, .int .i64 x0_2, .int .i64 x0_3] ⟨false, 0⟩] : AMem))
      else (if (decide (x1 < 1)) = true
        then some (.int .i64 0, ([AObj.cells [.int .i64 x0_0, .int .i64 x0_1, .int .i64 x0_2, .int .i64 x0_3] ⟨false, 0⟩] : AMem))
        else (if (decide (x1 > 65536)) = true
          then some (.int .i64 0, ([AObj.cells [.int .i64 x0_0, .int .i64 x0_1, .int .i64 x0_2, .int .i64 x0_3] ⟨false, 0⟩] : AMem))
          else (Option.bind (L.call 23 [.int .i64 x0_3, .int .i64 (IntKind.wrap .i64 (3 * x1))] []) fun r_1 =>
            (Option.bind (intOf? .i64 (some r_1.1)) fun x_2 =>
            (Option.bind (L.call 25 [.int .u64 (IntKind.wrap .u64 x_2)] []) fun r_3 =>
            (Option.bind (intOf? .i64 (some r_3.1)) fun x_4 =>
            some (.int .i64 x_4, ([AObj.cells [.int .i64 x0_0, .int .i64 x0_1, .int .i64 x0_2, .int .i64 x0_3] ⟨false, 0⟩] : AMem)))))))))) := by kernel_rfl
/-! #### skylightref01.Root -/
noncomputable def k25_8 (L : Rec) : KT := blockK 0 (seqK (code L (.clear [0, 1, 2, 4, 5, 6, 7, 8, 9, 10, 11, 12, 13, 14, 15, 16, 17, 18, 19, 20, 21] c25_25) (retK [.tmp 2])) (retK [.tmp 2]))
def s25_8 (x0 : Int) (x3 : Int) (x4 : Int) : List Value := [.int .u64 x0, junk, junk, .int .u64 x3, .int .i64 x4, junk, junk, junk, junk, junk, junk, junk, junk, junk, junk, junk, junk, junk, junk, junk, junk, junk]
theorem XP25_8 : ∃ P : Rec → Int → Int → Int → Res, P = fun (L : Rec) (x0 : Int) (x3 : Int) (x4 : Int) => L.loop b25_8 (k25_8 L) (s25_8 x0 x3 x4) ([] : AMem) := ⟨_, rfl⟩
noncomputable def P25_8 : Rec → Int → Int → Int → Res := Classical.choose XP25_8
noncomputable def k25_24 (L : Rec) : KT := postK [1, 2, 5, 6, 7, 8, 9, 10, 11, 12, 13, 14, 15, 16, 17, 18, 19, 20, 21] (loopK L b25_8 (blockK 0 (seqK (code L (.clear [0, 1, 2, 4, 5, 6, 7, 8, 9, 10, 11, 12, 13, 14, 15, 16, 17, 18, 19, 20, 21] c25_25) (retK [.tmp 2])) (retK [.tmp 2]))))
def s25_24 (x0 : Int) (x3 : Int) (x4 : Int) : List Value := [.int .u64 x0, junk, junk, .int .u64 x3, .int .i64 x4, junk, junk, junk, junk, junk, junk, junk, junk, junk, junk, junk, junk, junk, junk, junk, junk, junk]
theorem XP25_24 : ∃ P : Rec → Int → Int → Int → Res, P = fun (L : Rec) (x0 : Int) (x3 : Int) (x4 : Int) => code L c25_24 (k25_24 L) (s25_24 x0 x3 x4) ([] : AMem) := ⟨_, rfl⟩
noncomputable def P25_24 : Rec → Int → Int → Int → Res := Classical.choose XP25_24
noncomputable def k25_25 (L : Rec) : KT := retK [.tmp 2]
def s25_25 (x3 : Int) : List Value := [junk, junk, junk, .int .u64 x3, junk, junk, junk, junk, junk, junk, junk, junk, junk, junk, junk, junk, junk, junk, junk, junk, junk, junk]
theorem XP25_25 : ∃ P : Rec → Int → Res, P = fun (L : Rec) (x3 : Int) => code L c25_25 (k25_25 L) (s25_25 x3) ([] : AMem) := ⟨_, rfl⟩
noncomputable def P25_25 : Rec → Int → Res := Classical.choose XP25_25
theorem QP25_8_eq (L : Rec) (b25_8 c25_24 c25_25 : ACode) (hb : ∀ K t A, L.loop b25_8 K t A = code L (.post (.seq (.seq (.ops o25_11) (.cond (.tmp 7) (.skip) (.exit 0))) (.seq (.block 1 (.seq (.ops o25_18) (.seq (.ops o25_20) (.cond (.tmp 18) (.ops o25_22) (.skip))))) (.clear [1, 2, 5, 6, 7, 8, 9, 10, 11, 12, 13, 14, 15, 16, 17, 18, 19, 20, 21] c25_24))) [1, 2, 5, 6, 7, 8, 9, 10, 11, 12, 13, 14, 15, 16, 17, 18, 19, 20, 21]) (loopK L b25_8 K) t A) (P25_8 : Rec → Int → Int → Int → Res) (hP25_8 : P25_8 = fun (L : Rec) (x0 : Int) (x3 : Int) (x4 : Int) => L.loop b25_8 (blockK 0 (seqK (code L (.clear [0, 1, 2, 4, 5, 6, 7, 8, 9, 10, 11, 12, 13, 14, 15, 16, 17, 18, 19, 20, 21] c25_25) (retK [.tmp 2])) (retK [.tmp 2]))) (s25_8 x0 x3 x4) ([] : AMem)) (P25_24 : Rec → Int → Int → Int → Res) (hP25_24 : P25_24 = fun (L : Rec) (x0 : Int) (x3 : Int) (x4 : Int) => code L c25_24 (postK [1, 2, 5, 6, 7, 8, 9, 10, 11, 12, 13, 14, 15, 16, 17, 18, 19, 20, 21] (loopK L b25_8 (blockK 0 (seqK (code L (.clear [0, 1, 2, 4, 5, 6, 7, 8, 9, 10, 11, 12, 13, 14, 15, 16, 17, 18, 19, 20, 21] c25_25) (retK [.tmp 2])) (retK [.tmp 2]))))) (s25_24 x0 x3 x4) ([] : AMem)) (P25_25 : Rec → Int → Res) (hP25_25 : P25_25 = fun (L : Rec) (x3 : Int) => code L c25_25 (retK [.tmp 2]) (s25_25 x3) ([] : AMem)) (x0 : Int) (x3 : Int) (x4 : Int) : P25_8 L x0 x3 x4 =
  (if (decide (x4 ≥ 0)) = true
    then (if x4 < 0
      then none
      else (if (decide ((IntKind.wrap .u64 ((IntKind.wrap .u64 (x3 + (IntKind.wrap .u64 (1 * 2 ^ (min (Int.toNat x4) (IntKind.bits .u64)))))) * (IntKind.wrap .u64 (x3 + (IntKind.wrap .u64 (1 * 2 ^ (min (Int.toNat x4) (IntKind.bits .u64)))))))) ≤ x0)) = true
        then P25_24 L x0 (IntKind.wrap .u64 (x3 + (IntKind.wrap .u64 (1 * 2 ^ (min (Int.toNat x4) (IntKind.bits .u64)))))) x4
        else P25_24 L x0 x3 x4))
    else P25_25 L x3) := by
  subst hP25_8; subst hP25_24; subst hP25_25; exact (hb (blockK 0 (seqK (code L (.clear [0, 1, 2, 4, 5, 6, 7, 8, 9, 10, 11, 12, 13, 14, 15, 16, 17, 18, 19, 20, 21] c25_25) (retK [.tmp 2])) (retK [.tmp 2]))) (s25_8 x0 x3 x4) ([] : AMem)).trans (by kernel_rfl)
theorem P25_8_eq (L : Rec) (hL : ∀ b K t A, L.loop b K t A = code L b (loopK L b K) t A) (x0 : Int) (x3 : Int) (x4 : Int) : P25_8 L x0 x3 x4 =
  (if (decide (x4 ≥ 0)) = true
    then (if x4 < 0
      then none
      else (if (decide ((IntKind.wrap .u64 ((IntKind.wrap .u64 (x3 + (IntKind.wrap .u64 (1 * 2 ^ (min (Int.toNat x4) (IntKind.bits .u64)))))) * (IntKind.wrap .u64 (x3 + (IntKind.wrap .u64 (1 * 2 ^ (min (Int.toNat x4) (IntKind.bits .u64)))))))) ≤ x0)) = true
        then P25_24 L x0 (IntKind.wrap .u64 (x3 + (IntKind.wrap .u64 (1 * 2 ^ (min (Int.toNat x4) (IntKind.bits .u64)))))) x4
        else P25_24 L x0 x3 x4))
    else P25_25 L x3) := QP25_8_eq L b25_8 c25_24 c25_25 (hL b25_8) P25_8 (Classical.choose_spec XP25_8) P25_24 (Classical.choose_spec XP25_24) P25_25 (Classical.choose_spec XP25_25) x0 x3 x4
theorem QP25_24_eq (L : Rec) (b25_8 c25_25 : ACode) (P25_8 : Rec → Int → Int → Int → Res) (hP25_8 : P25_8 = fun (L : Rec) (x0 : Int) (x3 : Int) (x4 : Int) => L.loop b25_8 (blockK 0 (seqK (code L (.clear [0, 1, 2, 4, 5, 6, 7, 8, 9, 10, 11, 12, 13, 14, 15, 16, 17, 18, 19, 20, 21] c25_25) (retK [.tmp 2])) (retK [.tmp 2]))) (s25_8 x0 x3 x4) ([] : AMem)) (P25_24 : Rec → Int → Int → Int → Res) (hP25_24 : P25_24 = fun (L : Rec) (x0 : Int) (x3 : Int) (x4 : Int) => code L (.ops o25_24) (postK [1, 2, 5, 6, 7, 8, 9, 10, 11, 12, 13, 14, 15, 16, 17, 18, 19, 20, 21] (loopK L b25_8 (blockK 0 (seqK (code L (.clear [0, 1, 2, 4, 5, 6, 7, 8, 9, 10, 11, 12, 13, 14, 15, 16, 17, 18, 19, 20, 21] c25_25) (retK [.tmp 2])) (retK [.tmp 2]))))) (s25_24 x0 x3 x4) ([] : AMem)) (x0 : Int) (x3 : Int) (x4 : Int) : P25_24 L x0 x3 x4 =
  P25_8 L x0 x3 (IntKind.wrap .i64 (x4 - 1)) := by
  subst hP25_8; subst hP25_24; kernel_rfl
theorem P25_24_eq (L : Rec) (x0 : Int) (x3 : Int) (x4 : Int) : P25_24 L x0 x3 x4 =
  P25_8 L x0 x3 (IntKind.wrap .i64 (x4 - 1)) := QP25_24_eq L b25_8 c25_25 P25_8 (Classical.choose_spec XP25_8) P25_24 (Classical.choose_spec XP25_24) x0 x3 x4
theorem QP25_25_eq (L : Rec) (P25_25 : Rec → Int → Res) (hP25_25 : P25_25 = fun (L : Rec) (x3 : Int) => code L (.seq (.ops o25_26) (.ret)) (retK [.tmp 2]) (s25_25 x3) ([] : AMem)) (x3 : Int) : P25_25 L x3 =
  some (.int .i64 (IntKind.wrap .i64 x3), ([] : AMem)) := by
  subst hP25_25; kernel_rfl
theorem P25_25_eq (L : Rec) (x3 : Int) : P25_25 L x3 =
  some (.int .i64 (IntKind.wrap .i64 x3), ([] : AMem)) := QP25_25_eq L P25_25 (Classical.choose_spec XP25_25) x3
theorem QE25 (L : Rec) (b25_8 c25_25 : ACode) (P25_8 : Rec → Int → Int → Int → Res) (hP25_8 : P25_8 = fun (L : Rec) (x0 : Int) (x3 : Int) (x4 : Int) => L.loop b25_8 (blockK 0 (seqK (code L (.clear [0, 1, 2, 4, 5, 6, 7, 8, 9, 10, 11, 12, 13, 14, 15, 16, 17, 18, 19, 20, 21] c25_25) (retK [.tmp 2])) (retK [.tmp 2]))) (s25_8 x0 x3 x4) ([] : AMem)) (x0 : Int) : enterF L ⟨22, [.tmp 2], .seq (.ops o25_1) (.seq (.ops o25_3) (.seq (.seq (.ops o25_6) (.block 0 (.clear [1, 2, 5, 6, 7, 8, 9, 10, 11, 12, 13, 14, 15, 16, 17, 18, 19, 20, 21] (.loop b25_8)))) (.clear [0, 1, 2, 4, 5, 6, 7, 8, 9, 10, 11, 12, 13, 14, 15, 16, 17, 18, 19, 20, 21] c25_25)))⟩ [.int .u64 x0] [] =
  P25_8 L x0 0 31 := by
  subst hP25_8; kernel_rfl
theorem E25 (L : Rec) (x0 : Int) : enterF L a25 [.int .u64 x0] [] =
  P25_8 L x0 0 31 := QE25 L b25_8 c25_25 P25_8 (Classical.choose_spec XP25_8) x0
end Go.Proofs.Ytkjgmcjdblhkeaa
