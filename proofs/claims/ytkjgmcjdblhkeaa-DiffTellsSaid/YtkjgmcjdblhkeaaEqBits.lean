/- What the pieces of some functions come to. -/
import Derived.Test.YtkjgmcjdblhkeaaCode
set_option linter.unusedVariables false
set_option maxRecDepth 100000
namespace Go.Proofs.Ytkjgmcjdblhkeaa
open Go Go.Ax
/-! #### math/bits.Len64 -/
noncomputable def k29_10 (L : Rec) : KT := retK [.tmp 2]
def s29_10 (x0 : Int) (x2 : Int) : List Value := [.int .u64 x0, junk, .int .i64 x2, junk, junk, junk, junk, junk, junk, junk, junk, junk, junk, junk, junk, junk, junk, junk, junk, junk, junk, junk, junk, junk, junk]
theorem XP29_10 : ∃ P : Rec → Int → Int → Res, P = fun (L : Rec) (x0 : Int) (x2 : Int) => code L c29_10 (k29_10 L) (s29_10 x0 x2) ([] : AMem) := ⟨_, rfl⟩
noncomputable def P29_10 : Rec → Int → Int → Res := Classical.choose XP29_10
noncomputable def k29_18 (L : Rec) : KT := retK [.tmp 2]
def s29_18 (x0 : Int) (x2 : Int) : List Value := [.int .u64 x0, junk, .int .i64 x2, junk, junk, junk, junk, junk, junk, junk, junk, junk, junk, junk, junk, junk, junk, junk, junk, junk, junk, junk, junk, junk, junk]
theorem XP29_18 : ∃ P : Rec → Int → Int → Res, P = fun (L : Rec) (x0 : Int) (x2 : Int) => code L c29_18 (k29_18 L) (s29_18 x0 x2) ([] : AMem) := ⟨_, rfl⟩
noncomputable def P29_18 : Rec → Int → Int → Res := Classical.choose XP29_18
noncomputable def k29_26 (L : Rec) : KT := retK [.tmp 2]
def s29_26 (x0 : Int) (x2 : Int) : List Value := [.int .u64 x0, junk, .int .i64 x2, junk, junk, junk, junk, junk, junk, junk, junk, junk, junk, junk, junk, junk, junk, junk, junk, junk, junk, junk, junk, junk, junk]
theorem XP29_26 : ∃ P : Rec → Int → Int → Res, P = fun (L : Rec) (x0 : Int) (x2 : Int) => code L c29_26 (k29_26 L) (s29_26 x0 x2) ([] : AMem) := ⟨_, rfl⟩
noncomputable def P29_26 : Rec → Int → Int → Res := Classical.choose XP29_26
theorem QP29_10_eq (L : Rec) (c29_18 : ACode) (P29_10 : Rec → Int → Int → Res) (hP29_10 : P29_10 = fun (L : Rec) (x0 : Int) (x2 : Int) => code L (.seq (.seq (.ops o29_12) (.cond (.tmp 8) (.seq (.ops o29_15) (.ops o29_16)) (.skip))) (.clear [1, 3, 4, 5, 6, 7, 8, 9, 10, 11, 12, 13, 14, 15, 16, 17, 18, 19, 20, 21, 22, 23, 24] c29_18)) (retK [.tmp 2]) (s29_10 x0 x2) ([] : AMem)) (P29_18 : Rec → Int → Int → Res) (hP29_18 : P29_18 = fun (L : Rec) (x0 : Int) (x2 : Int) => code L c29_18 (retK [.tmp 2]) (s29_18 x0 x2) ([] : AMem)) (x0 : Int) (x2 : Int) : P29_10 L x0 x2 =
  (if (decide (x0 ≥ 65536)) = true
    then P29_18 L (Int.fdiv x0 (2 ^ 16)) (IntKind.wrap .i64 (x2 + 16))
    else P29_18 L x0 x2) := by
  subst hP29_10; subst hP29_18; kernel_rfl
theorem P29_10_eq (L : Rec) (x0 : Int) (x2 : Int) : P29_10 L x0 x2 =
  (if (decide (x0 ≥ 65536)) = true
    then P29_18 L (Int.fdiv x0 (2 ^ 16)) (IntKind.wrap .i64 (x2 + 16))
    else P29_18 L x0 x2) := QP29_10_eq L c29_18 P29_10 (Classical.choose_spec XP29_10) P29_18 (Classical.choose_spec XP29_18) x0 x2
theorem QP29_18_eq (L : Rec) (c29_26 : ACode) (P29_18 : Rec → Int → Int → Res) (hP29_18 : P29_18 = fun (L : Rec) (x0 : Int) (x2 : Int) => code L (.seq (.seq (.ops o29_20) (.cond (.tmp 14) (.seq (.ops o29_23) (.ops o29_24)) (.skip))) (.clear [1, 3, 4, 5, 6, 7, 8, 9, 10, 11, 12, 13, 14, 15, 16, 17, 18, 19, 20, 21, 22, 23, 24] c29_26)) (retK [.tmp 2]) (s29_18 x0 x2) ([] : AMem)) (P29_26 : Rec → Int → Int → Res) (hP29_26 : P29_26 = fun (L : Rec) (x0 : Int) (x2 : Int) => code L c29_26 (retK [.tmp 2]) (s29_26 x0 x2) ([] : AMem)) (x0 : Int) (x2 : Int) : P29_18 L x0 x2 =
  (if (decide (x0 ≥ 256)) = true
    then P29_26 L (Int.fdiv x0 (2 ^ 8)) (IntKind.wrap .i64 (x2 + 8))
    else P29_26 L x0 x2) := by
  subst hP29_18; subst hP29_26; kernel_rfl
theorem P29_18_eq (L : Rec) (x0 : Int) (x2 : Int) : P29_18 L x0 x2 =
  (if (decide (x0 ≥ 256)) = true
    then P29_26 L (Int.fdiv x0 (2 ^ 8)) (IntKind.wrap .i64 (x2 + 8))
    else P29_26 L x0 x2) := QP29_18_eq L c29_26 P29_18 (Classical.choose_spec XP29_18) P29_26 (Classical.choose_spec XP29_26) x0 x2
theorem QP29_26_eq (L : Rec) (P29_26 : Rec → Int → Int → Res) (hP29_26 : P29_26 = fun (L : Rec) (x0 : Int) (x2 : Int) => code L (.seq (.ops o29_27) (.ret)) (retK [.tmp 2]) (s29_26 x0 x2) ([] : AMem)) (x0 : Int) (x2 : Int) : P29_26 L x0 x2 =
  (if (0 : Int) ≤ (IntKind.wrap .u8 x0)
    then (Option.bind ((Array.toList (ByteArray.data (ByteArray.mk #[0, 1, 2, 2, 3, 3, 3, 3, 4, 4, 4, 4, 4, 4, 4, 4, 5, 5, 5, 5, 5, 5, 5, 5, 5, 5, 5, 5, 5, 5, 5, 5, 6, 6, 6, 6, 6, 6, 6, 6, 6, 6, 6, 6, 6, 6, 6, 6, 6, 6, 6, 6, 6, 6, 6, 6, 6, 6, 6, 6, 6, 6, 6, 6, 7, 7, 7, 7, 7, 7, 7, 7, 7, 7, 7, 7, 7, 7, 7, 7, 7, 7, 7, 7, 7, 7, 7, 7, 7, 7, 7, 7, 7, 7, 7, 7, 7, 7, 7, 7, 7, 7, 7, 7, 7, 7, 7, 7, 7, 7, 7, 7, 7, 7, 7, 7, 7, 7, 7, 7, 7, 7, 7, 7, 7, 7, 7, 7, 8, 8, 8, 8, 8, 8, 8, 8, 8, 8, 8, 8, 8, 8, 8, 8, 8, 8, 8, 8, 8, 8, 8, 8, 8, 8, 8, 8, 8, 8, 8, 8, 8, 8, 8, 8, 8, 8, 8, 8, 8, 8, 8, 8, 8, 8, 8, 8, 8, 8, 8, 8, 8, 8, 8, 8, 8, 8, 8, 8, 8, 8, 8, 8, 8, 8, 8, 8, 8, 8, 8, 8, 8, 8, 8, 8, 8, 8, 8, 8, 8, 8, 8, 8, 8, 8, 8, 8, 8, 8, 8, 8, 8, 8, 8, 8, 8, 8, 8, 8, 8, 8, 8, 8, 8, 8, 8, 8, 8, 8, 8, 8, 8, 8, 8, 8, 8, 8, 8, 8, 8, 8, 8, 8, 8, 8, 8, 8])))[(Int.toNat (IntKind.wrap .u8 x0))]?) fun b_1 =>
      some (.int .i64 (IntKind.wrap .i64 (x2 + (IntKind.wrap .i64 (Int.ofNat (UInt8.toNat b_1))))), ([] : AMem)))
    else none) := by
  subst hP29_26; kernel_rfl
theorem P29_26_eq (L : Rec) (x0 : Int) (x2 : Int) : P29_26 L x0 x2 =
  (if (0 : Int) ≤ (IntKind.wrap .u8 x0)
    then (Option.bind ((Array.toList (ByteArray.data (ByteArray.mk #[0, 1, 2, 2, 3, 3, 3, 3, 4, 4, 4, 4, 4, 4, 4, 4, 5, 5, 5, 5, 5, 5, 5, 5, 5, 5, 5, 5, 5, 5, 5, 5, 6, 6, 6, 6, 6, 6, 6, 6, 6, 6, 6, 6, 6, 6, 6, 6, 6, 6, 6, 6, 6, 6, 6, 6, 6, 6, 6, 6, 6, 6, 6, 6, 7, 7, 7, 7, 7, 7, 7, 7, 7, 7, 7, 7, 7, 7, 7, 7, 7, 7, 7, 7, 7, 7, 7, 7, 7, 7, 7, 7, 7, 7, 7, 7, 7, 7, 7, 7, 7, 7, 7, 7, 7, 7, 7, 7, 7, 7, 7, 7, 7, 7, 7, 7, 7, 7, 7, 7, 7, 7, 7, 7, 7, 7, 7, 7, 8, 8, 8, 8, 8, 8, 8, 8, 8, 8, 8, 8, 8, 8, 8, 8, 8, 8, 8, 8, 8, 8, 8, 8, 8, 8, 8, 8, 8, 8, 8, 8, 8, 8, 8, 8, 8, 8, 8, 8, 8, 8, 8, 8, 8, 8, 8, 8, 8, 8, 8, 8, 8, 8, 8, 8, 8, 8, 8, 8, 8, 8, 8, 8, 8, 8, 8, 8, 8, 8, 8, 8, 8, 8, 8, 8, 8, 8, 8, 8, 8, 8, 8, 8, 8, 8, 8, 8, 8, 8, 8, 8, 8, 8, 8, 8, 8, 8, 8, 8, 8, 8, 8, 8, 8, 8, 8, 8, 8, 8, 8, 8, 8, 8, 8, 8, 8, 8, 8, 8, 8, 8, 8, 8, 8, 8, 8, 8])))[(Int.toNat (IntKind.wrap .u8 x0))]?) fun b_1 =>
      some (.int .i64 (IntKind.wrap .i64 (x2 + (IntKind.wrap .i64 (Int.ofNat (UInt8.toNat b_1))))), ([] : AMem)))
    else none) := QP29_26_eq L P29_26 (Classical.choose_spec XP29_26) x0 x2
theorem QE29 (L : Rec) (c29_10 : ACode) (P29_10 : Rec → Int → Int → Res) (hP29_10 : P29_10 = fun (L : Rec) (x0 : Int) (x2 : Int) => code L c29_10 (retK [.tmp 2]) (s29_10 x0 x2) ([] : AMem)) (x0 : Int) : enterF L ⟨25, [.tmp 2], .seq (.ops o29_1) (.seq (.seq (.ops o29_4) (.cond (.tmp 4) (.seq (.ops o29_7) (.ops o29_8)) (.skip))) (.clear [1, 3, 4, 5, 6, 7, 8, 9, 10, 11, 12, 13, 14, 15, 16, 17, 18, 19, 20, 21, 22, 23, 24] c29_10))⟩ [.int .u64 x0] [] =
  (if (decide (x0 ≥ 4294967296)) = true
    then P29_10 L (Int.fdiv x0 (2 ^ 32)) 32
    else P29_10 L x0 0) := by
  subst hP29_10; kernel_rfl
theorem E29 (L : Rec) (x0 : Int) : enterF L a29 [.int .u64 x0] [] =
  (if (decide (x0 ≥ 4294967296)) = true
    then P29_10 L (Int.fdiv x0 (2 ^ 32)) 32
    else P29_10 L x0 0) := QE29 L c29_10 P29_10 (Classical.choose_spec XP29_10) x0
end Go.Proofs.Ytkjgmcjdblhkeaa
