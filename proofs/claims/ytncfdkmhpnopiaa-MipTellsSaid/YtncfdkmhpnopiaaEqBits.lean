/- What the pieces of some functions come to. -/
import Derived.Test.YtncfdkmhpnopiaaCode
set_option linter.unusedVariables false
set_option maxRecDepth 100000
namespace Go.Proofs.Ytncfdkmhpnopiaa
open Go Go.Ax
/-! #### math/bits.Len64 -/
noncomputable def k36_10 (L : Rec) : KT := retK [.tmp 2]
def s36_10 (x0 : Int) (x2 : Int) : List Value := [.int .u64 x0, junk, .int .i64 x2, junk, junk, junk, junk, junk, junk, junk, junk, junk, junk, junk, junk, junk, junk, junk, junk, junk, junk, junk, junk, junk, junk]
theorem XP36_10 : ∃ P : Rec → Int → Int → Res, P = fun (L : Rec) (x0 : Int) (x2 : Int) => code L c36_10 (k36_10 L) (s36_10 x0 x2) ([] : AMem) := ⟨_, rfl⟩
noncomputable def P36_10 : Rec → Int → Int → Res := Classical.choose XP36_10
noncomputable def k36_18 (L : Rec) : KT := retK [.tmp 2]
def s36_18 (x0 : Int) (x2 : Int) : List Value := [.int .u64 x0, junk, .int .i64 x2, junk, junk, junk, junk, junk, junk, junk, junk, junk, junk, junk, junk, junk, junk, junk, junk, junk, junk, junk, junk, junk, junk]
theorem XP36_18 : ∃ P : Rec → Int → Int → Res, P = fun (L : Rec) (x0 : Int) (x2 : Int) => code L c36_18 (k36_18 L) (s36_18 x0 x2) ([] : AMem) := ⟨_, rfl⟩
noncomputable def P36_18 : Rec → Int → Int → Res := Classical.choose XP36_18
noncomputable def k36_26 (L : Rec) : KT := retK [.tmp 2]
def s36_26 (x0 : Int) (x2 : Int) : List Value := [.int .u64 x0, junk, .int .i64 x2, junk, junk, junk, junk, junk, junk, junk, junk, junk, junk, junk, junk, junk, junk, junk, junk, junk, junk, junk, junk, junk, junk]
theorem XP36_26 : ∃ P : Rec → Int → Int → Res, P = fun (L : Rec) (x0 : Int) (x2 : Int) => code L c36_26 (k36_26 L) (s36_26 x0 x2) ([] : AMem) := ⟨_, rfl⟩
noncomputable def P36_26 : Rec → Int → Int → Res := Classical.choose XP36_26
theorem QP36_10_eq (L : Rec) (c36_18 : ACode) (P36_10 : Rec → Int → Int → Res) (hP36_10 : P36_10 = fun (L : Rec) (x0 : Int) (x2 : Int) => code L (.seq (.seq (.ops o36_12) (.cond (.tmp 8) (.seq (.ops o36_15) (.ops o36_16)) (.skip))) (.clear zl50 c36_18)) (retK [.tmp 2]) (s36_10 x0 x2) ([] : AMem)) (P36_18 : Rec → Int → Int → Res) (hP36_18 : P36_18 = fun (L : Rec) (x0 : Int) (x2 : Int) => code L c36_18 (retK [.tmp 2]) (s36_18 x0 x2) ([] : AMem)) (x0 : Int) (x2 : Int) : P36_10 L x0 x2 =
  (if (decide (x0 ≥ 65536)) = true
    then P36_18 L (Int.fdiv x0 (2 ^ 16)) (IntKind.wrap .i64 (x2 + 16))
    else P36_18 L x0 x2) := by
  subst hP36_10; subst hP36_18; kernel_rfl
theorem P36_10_eq (L : Rec) (x0 : Int) (x2 : Int) : P36_10 L x0 x2 =
  (if (decide (x0 ≥ 65536)) = true
    then P36_18 L (Int.fdiv x0 (2 ^ 16)) (IntKind.wrap .i64 (x2 + 16))
    else P36_18 L x0 x2) := QP36_10_eq L c36_18 P36_10 (Classical.choose_spec XP36_10) P36_18 (Classical.choose_spec XP36_18) x0 x2
theorem QP36_18_eq (L : Rec) (c36_26 : ACode) (P36_18 : Rec → Int → Int → Res) (hP36_18 : P36_18 = fun (L : Rec) (x0 : Int) (x2 : Int) => code L (.seq (.seq (.ops o36_20) (.cond (.tmp 14) (.seq (.ops o36_23) (.ops o36_24)) (.skip))) (.clear zl50 c36_26)) (retK [.tmp 2]) (s36_18 x0 x2) ([] : AMem)) (P36_26 : Rec → Int → Int → Res) (hP36_26 : P36_26 = fun (L : Rec) (x0 : Int) (x2 : Int) => code L c36_26 (retK [.tmp 2]) (s36_26 x0 x2) ([] : AMem)) (x0 : Int) (x2 : Int) : P36_18 L x0 x2 =
  (if (decide (x0 ≥ 256)) = true
    then P36_26 L (Int.fdiv x0 (2 ^ 8)) (IntKind.wrap .i64 (x2 + 8))
    else P36_26 L x0 x2) := by
  subst hP36_18; subst hP36_26; kernel_rfl
theorem P36_18_eq (L : Rec) (x0 : Int) (x2 : Int) : P36_18 L x0 x2 =
  (if (decide (x0 ≥ 256)) = true
    then P36_26 L (Int.fdiv x0 (2 ^ 8)) (IntKind.wrap .i64 (x2 + 8))
    else P36_26 L x0 x2) := QP36_18_eq L c36_26 P36_18 (Classical.choose_spec XP36_18) P36_26 (Classical.choose_spec XP36_26) x0 x2
theorem QP36_26_eq (L : Rec) (P36_26 : Rec → Int → Int → Res) (hP36_26 : P36_26 = fun (L : Rec) (x0 : Int) (x2 : Int) => code L (.seq (.ops o36_27) (.ret)) (retK [.tmp 2]) (s36_26 x0 x2) ([] : AMem)) (x0 : Int) (x2 : Int) : P36_26 L x0 x2 =
  (if (0 : Int) ≤ (IntKind.wrap .u8 x0)
    then (Option.bind ((Array.toList (ByteArray.data (ByteArray.mk #[0, 1, 2, 2, 3, 3, 3, 3, 4, 4, 4, 4, 4, 4, 4, 4, 5, 5, 5, 5, 5, 5, 5, 5, 5, 5, 5, 5, 5, 5, 5, 5, 6, 6, 6, 6, 6, 6, 6, 6, 6, 6, 6, 6, 6, 6, 6, 6, 6, 6, 6, 6, 6, 6, 6, 6, 6, 6, 6, 6, 6, 6, 6, 6, 7, 7, 7, 7, 7, 7, 7, 7, 7, 7, 7, 7, 7, 7, 7, 7, 7, 7, 7, 7, 7, 7, 7, 7, 7, 7, 7, 7, 7, 7, 7, 7, 7, 7, 7, 7, 7, 7, 7, 7, 7, 7, 7, 7, 7, 7, 7, 7, 7, 7, 7, 7, 7, 7, 7, 7, 7, 7, 7, 7, 7, 7, 7, 7, 8, 8, 8, 8, 8, 8, 8, 8, 8, 8, 8, 8, 8, 8, 8, 8, 8, 8, 8, 8, 8, 8, 8, 8, 8, 8, 8, 8, 8, 8, 8, 8, 8, 8, 8, 8, 8, 8, 8, 8, 8, 8, 8, 8, 8, 8, 8, 8, 8, 8, 8, 8, 8, 8, 8, 8, 8, 8, 8, 8, 8, 8, 8, 8, 8, 8, 8, 8, 8, 8, 8, 8, 8, 8, 8, 8, 8, 8, 8, 8, 8, 8, 8, 8, 8, 8, 8, 8, 8, 8, 8, 8, 8, 8, 8, 8, 8, 8, 8, 8, 8, 8, 8, 8, 8, 8, 8, 8, 8, 8, 8, 8, 8, 8, 8, 8, 8, 8, 8, 8, 8, 8, 8, 8, 8, 8, 8, 8])))[(Int.toNat (IntKind.wrap .u8 x0))]?) fun b_1 =>
      some (.int .i64 (IntKind.wrap .i64 (x2 + (IntKind.wrap .i64 (Int.ofNat (UInt8.toNat b_1))))), ([] : AMem)))
    else none) := by
  subst hP36_26; kernel_rfl
theorem P36_26_eq (L : Rec) (x0 : Int) (x2 : Int) : P36_26 L x0 x2 =
  (if (0 : Int) ≤ (IntKind.wrap .u8 x0)
    then (Option.bind ((Array.toList (ByteArray.data (ByteArray.mk #[0, 1, 2, 2, 3, 3, 3, 3, 4, 4, 4, 4, 4, 4, 4, 4, 5, 5, 5, 5, 5, 5, 5, 5, 5, 5, 5, 5, 5, 5, 5, 5, 6, 6, 6, 6, 6, 6, 6, 6, 6, 6, 6, 6, 6, 6, 6, 6, 6, 6, 6, 6, 6, 6, 6, 6, 6, 6, 6, 6, 6, 6, 6, 6, 7, 7, 7, 7, 7, 7, 7, 7, 7, 7, 7, 7, 7, 7, 7, 7, 7, 7, 7, 7, 7, 7, 7, 7, 7, 7, 7, 7, 7, 7, 7, 7, 7, 7, 7, 7, 7, 7, 7, 7, 7, 7, 7, 7, 7, 7, 7, 7, 7, 7, 7, 7, 7, 7, 7, 7, 7, 7, 7, 7, 7, 7, 7, 7, 8, 8, 8, 8, 8, 8, 8, 8, 8, 8, 8, 8, 8, 8, 8, 8, 8, 8, 8, 8, 8, 8, 8, 8, 8, 8, 8, 8, 8, 8, 8, 8, 8, 8, 8, 8, 8, 8, 8, 8, 8, 8, 8, 8, 8, 8, 8, 8, 8, 8, 8, 8, 8, 8, 8, 8, 8, 8, 8, 8, 8, 8, 8, 8, 8, 8, 8, 8, 8, 8, 8, 8, 8, 8, 8, 8, 8, 8, 8, 8, 8, 8, 8, 8, 8, 8, 8, 8, 8, 8, 8, 8, 8, 8, 8, 8, 8, 8, 8, 8, 8, 8, 8, 8, 8, 8, 8, 8, 8, 8, 8, 8, 8, 8, 8, 8, 8, 8, 8, 8, 8, 8, 8, 8, 8, 8, 8, 8])))[(Int.toNat (IntKind.wrap .u8 x0))]?) fun b_1 =>
      some (.int .i64 (IntKind.wrap .i64 (x2 + (IntKind.wrap .i64 (Int.ofNat (UInt8.toNat b_1))))), ([] : AMem)))
    else none) := QP36_26_eq L P36_26 (Classical.choose_spec XP36_26) x0 x2
theorem QE36 (L : Rec) (c36_10 : ACode) (P36_10 : Rec → Int → Int → Res) (hP36_10 : P36_10 = fun (L : Rec) (x0 : Int) (x2 : Int) => code L c36_10 (retK [.tmp 2]) (s36_10 x0 x2) ([] : AMem)) (x0 : Int) : enterF L ⟨25, [.tmp 2], .seq (.ops o36_1) (.seq (.seq (.ops o36_4) (.cond (.tmp 4) (.seq (.ops o36_7) (.ops o36_8)) (.skip))) (.clear zl50 c36_10))⟩ [.int .u64 x0] [] =
  (if (decide (x0 ≥ 4294967296)) = true
    then P36_10 L (Int.fdiv x0 (2 ^ 32)) 32
    else P36_10 L x0 0) := by
  subst hP36_10; kernel_rfl
theorem E36 (L : Rec) (x0 : Int) : enterF L a36 [.int .u64 x0] [] =
  (if (decide (x0 ≥ 4294967296)) = true
    then P36_10 L (Int.fdiv x0 (2 ^ 32)) 32
    else P36_10 L x0 0) := QE36 L c36_10 P36_10 (Classical.choose_spec XP36_10) x0
/-! #### math/bits.Len -/
theorem E27 (L : Rec) (x0 : Int) : enterF L a27 [.int .u64 x0] [] =
  (Option.bind (L.call 36 [.int .u64 x0] []) fun r_1 =>
    (Option.bind (intOf? .i64 (some r_1.1)) fun x_2 =>
    some (.int .i64 x_2, ([] : AMem)))) := by kernel_rfl
end Go.Proofs.Ytncfdkmhpnopiaa
