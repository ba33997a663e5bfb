/- Functions as the interpreter takes them, and that the program's are so. -/
import Derived.Test.YtjcmnchkgnmooaaAxC
import Derived.Test.YtjcmnchkgnmooaaSortX
import Derived.Test.YtjcmnchkgnmooaaProg
set_option linter.unusedVariables false
set_option maxRecDepth 100000
namespace Go.Proofs.Ytjcmnchkgnmooaa
open Go Go.Ax
def zl0 : List Nat := [0, 1, 4, 5, 6] ++ rg 15 117 ++ rg 133 106
def zl1 : List Nat := [0, 1, 4, 5, 6] ++ rg 15 224
def zl2 : List Nat := [0, 1, 4, 5, 6] ++ rg 13 53 ++ rg 67 172
def zl3 : List Nat := [0, 1, 4, 5, 6] ++ rg 13 226
def zl4 : List Nat := [0, 1, 4, 5, 6] ++ rg 12 227
def zl5 : List Nat := [0, 1, 2, 4, 5, 6] ++ rg 11 4 ++ rg 20 219
def zl6 : List Nat := [0, 1, 2, 4, 5, 6] ++ rg 11 4 ++ rg 19 220
def zl7 : List Nat := [0, 1, 2, 4, 5, 6] ++ rg 11 4 ++ rg 18 221
def zl8 : List Nat := rg 0 7 ++ rg 11 5 ++ rg 17 222
def zl9 : List Nat := [0, 1, 2, 4, 5, 6] ++ rg 11 228
def zl10 : List Nat := [0, 1, 4, 5, 6] ++ rg 8 231
def zl11 : List Nat := rg 0 7 ++ rg 8 89 ++ rg 99 14
def zl12 : List Nat := rg 0 113
def zl13 : List Nat := [1, 2, 4] ++ rg 6 107
def zl14 : List Nat := [2, 3, 4] ++ rg 7 8 ++ rg 18 40
def zl15 : List Nat := rg 1 4 ++ rg 7 51
def zl16 : List Nat := [1, 2] ++ rg 4 8 ++ rg 15 18
def zl17 : List Nat := [0, 1, 2] ++ rg 4 29
def zl18 : List Nat := [0] ++ rg 2 5 ++ rg 9 10
def zl19 : List Nat := rg 0 19
/-! #### skylightlaw32.CombineAll -/
def o3_1 : List AOper := [⟨some 3, .box (.tmp 0), none⟩,
  ⟨some 6, .mv (.const (.bool false)), none⟩]
def o3_4 : List AOper := [⟨some 20, .load true [.int .i64, .int .i64] (.tmp 3), none⟩,
  ⟨some 21, .call true (.func 4) [.tmp 20] [(false, [.bool])] true, none⟩,
  ⟨some 22, .un .not (.tmp 21), none⟩,
  ⟨some 23, .mv (.tmp 22), none⟩,
  ⟨some 24, .fieldAddr 1 (.tmp 3), some (23, false)⟩,
  ⟨some 25, .load false [.int .i64] (.tmp 24), some (23, false)⟩,
  ⟨some 26, .bin .gtr (.tmp 25) (.const (.int .i64 16)), some (23, false)⟩,
  ⟨some 27, .pick (.tmp 23) (.const (.bool true)) (.tmp 26), none⟩,
  ⟨some 28, .mv (.tmp 27), none⟩,
  ⟨some 29, .fieldAddr 0 (.tmp 3), some (28, false)⟩,
  ⟨some 30, .load false [.int .i64] (.tmp 29), some (28, false)⟩,
  ⟨some 31, .bin .gtr (.tmp 30) (.const (.int .i64 64)), some (28, false)⟩,
  ⟨some 32, .pick (.tmp 28) (.const (.bool true)) (.tmp 31), none⟩,
  ⟨some 33, .mv (.tmp 32), none⟩,
  ⟨some 34, .mv (.tmp 2), some (33, false)⟩,
  ⟨some 35, .len (.tmp 34), some (33, false)⟩,
  ⟨some 36, .bin .gtr (.tmp 35) (.const (.int .i64 40)), some (33, false)⟩,
  ⟨some 37, .pick (.tmp 33) (.const (.bool true)) (.tmp 36), none⟩]
def o3_7 : List AOper := [⟨some 38, .call true (.func 5) [] [(false, [.bool])] true, none⟩,
  ⟨some 6, .mv (.tmp 38), none⟩]
def o3_11 : List AOper := [⟨some 39, .mv (.tmp 1), none⟩,
  ⟨some 40, .conv .i64 (.tmp 39), none⟩,
  ⟨some 41, .bin .rem (.tmp 40) (.const (.int .i64 20)), none⟩,
  ⟨some 42, .bin .add (.const (.int .i64 1)) (.tmp 41), none⟩,
  ⟨some 7, .mv (.tmp 42), none⟩]
def o3_13 : List AOper := [⟨some 43, .fieldAddr 0 (.tmp 3), none⟩,
  ⟨some 44, .load false [.int .i64] (.tmp 43), none⟩,
  ⟨some 45, .fieldAddr 1 (.tmp 3), none⟩,
  ⟨some 46, .load false [.int .i64] (.tmp 45), none⟩,
  ⟨some 47, .build [.int .i64 0, .int .i64 0] [(0, 1, .tmp 44), (1, 1, .tmp 46)], none⟩,
  ⟨some 48, .mv (.tmp 7), none⟩,
  ⟨some 49, .call false (.func 6) [.tmp 47, .tmp 48] [(false, [.ptr])] true, none⟩,
  ⟨some 8, .mv (.tmp 49), none⟩]
def o3_15 : List AOper := [⟨some 9, .alloc [.int .u64 0, .int .u64 0, .int .u64 0, .int .u64 0, .int .u64 0, .int .u64 0, .int .u64 0, .int .u64 0, .int .u64 0, .int .u64 0, .int .u64 0, .int .u64 0, .int .u64 0, .int .u64 0, .int .u64 0, .int .u64 0, .int .u64 0, .int .u64 0, .int .u64 0, .int .u64 0, .int .u64 0, .int .u64 0, .int .u64 0, .int .u64 0, .int .u64 0, .int .u64 0, .int .u64 0, .int .u64 0, .int .u64 0, .int .u64 0, .int .u64 0, .int .u64 0, .int .u64 0, .int .u64 0, .int .u64 0, .int .u64 0, .int .u64 0, .int .u64 0, .int .u64 0, .int .u64 0, .int .u64 0, .int .u64 0, .int .u64 0, .int .u64 0, .int .u64 0, .int .u64 0, .int .u64 0, .int .u64 0, .int .u64 0, .int .u64 0, .int .u64 0, .int .u64 0, .int .u64 0, .int .u64 0, .int .u64 0, .int .u64 0, .int .u64 0, .int .u64 0, .int .u64 0, .int .u64 0, .int .u64 0, .int .u64 0, .int .u64 0, .int .u64 0], none⟩,
  ⟨some 10, .alloc [.int .u64 0, .int .u64 0, .int .u64 0, .int .u64 0, .int .u64 0, .int .u64 0, .int .u64 0, .int .u64 0, .int .u64 0, .int .u64 0, .int .u64 0, .int .u64 0, .int .u64 0, .int .u64 0, .int .u64 0, .int .u64 0, .int .u64 0, .int .u64 0, .int .u64 0, .int .u64 0, .int .u64 0, .int .u64 0, .int .u64 0, .int .u64 0, .int .u64 0, .int .u64 0, .int .u64 0, .int .u64 0, .int .u64 0, .int .u64 0, .int .u64 0, .int .u64 0, .int .u64 0, .int .u64 0, .int .u64 0, .int .u64 0, .int .u64 0, .int .u64 0, .int .u64 0, .int .u64 0, .int .u64 0, .int .u64 0, .int .u64 0, .int .u64 0, .int .u64 0, .int .u64 0, .int .u64 0, .int .u64 0, .int .u64 0, .int .u64 0, .int .u64 0, .int .u64 0, .int .u64 0, .int .u64 0, .int .u64 0, .int .u64 0, .int .u64 0, .int .u64 0, .int .u64 0, .int .u64 0, .int .u64 0, .int .u64 0, .int .u64 0, .int .u64 0], none⟩]
def o3_18 : List AOper := [⟨some 11, .mv (.const (.int .i64 0)), none⟩]
def o3_23 : List AOper := [⟨some 50, .mv (.tmp 11), none⟩,
  ⟨some 51, .mv (.tmp 2), none⟩,
  ⟨some 52, .len (.tmp 51), none⟩,
  ⟨some 53, .bin .lss (.tmp 50) (.tmp 52), none⟩]
def o3_30 : List AOper := [⟨some 56, .mv (.tmp 2), none⟩,
  ⟨some 57, .mv (.tmp 11), none⟩,
  ⟨some 58, .indexAddr 6 (.tmp 56) (.tmp 57), none⟩,
  ⟨some 59, .load true [.bool, .int .i64, .int .i64, .int .i64, .int .i64, .int .i64] (.tmp 58), none⟩,
  ⟨some 12, .alloc [.bool false, .int .i64 0, .int .i64 0, .int .i64 0, .int .i64 0, .int .i64 0], none⟩,
  ⟨none, .store 6 (.tmp 12) (.tmp 59), none⟩]
def o3_33 : List AOper := [⟨some 60, .fieldAddr 0 (.tmp 12), none⟩,
  ⟨some 61, .load false [.bool] (.tmp 60), none⟩,
  ⟨some 62, .un .not (.tmp 61), none⟩]
def o3_37 : List AOper := [⟨some 63, .mv (.tmp 8), none⟩,
  ⟨some 64, .fieldAddr 1 (.tmp 12), none⟩,
  ⟨some 65, .load true [.int .i64, .int .i64, .int .i64, .int .i64] (.tmp 64), none⟩,
  ⟨some 66, .call false (.func 7) [.tmp 63, .tmp 65] [(false, [.bool])] true, none⟩]
def o3_41 : List AOper := [⟨some 67, .fieldAddr 1 (.tmp 12), none⟩,
  ⟨some 68, .fieldAddr 0 (.tmp 67), none⟩,
  ⟨some 69, .load false [.int .i64] (.tmp 68), none⟩,
  ⟨some 70, .bin .lss (.tmp 69) (.const (.int .i64 0)), none⟩,
  ⟨some 71, .mv (.tmp 70), none⟩,
  ⟨some 72, .fieldAddr 1 (.tmp 12), some (71, false)⟩,
  ⟨some 73, .fieldAddr 0 (.tmp 72), some (71, false)⟩,
  ⟨some 74, .load false [.int .i64] (.tmp 73), some (71, false)⟩,
  ⟨some 75, .fieldAddr 0 (.tmp 3), some (71, false)⟩,
  ⟨some 76, .load false [.int .i64] (.tmp 75), some (71, false)⟩,
  ⟨some 77, .bin .geq (.tmp 74) (.tmp 76), some (71, false)⟩,
  ⟨some 78, .pick (.tmp 71) (.const (.bool true)) (.tmp 77), none⟩]
def o3_44 : List AOper := [⟨some 6, .mv (.const (.bool false)), none⟩]
def o3_47 : List (AOper × Option Nat) := [(⟨some 79, .fieldAddr 1 (.tmp 12), none⟩, none),
  (⟨some 80, .fieldAddr 0 (.tmp 79), none⟩, none),
  (⟨some 81, .load false [.int .i64] (.tmp 80), none⟩, none),
  (⟨some 82, .fieldAddr 1 (.tmp 12), none⟩, none),
  (⟨some 83, .fieldAddr 0 (.tmp 82), none⟩, none),
  (⟨some 84, .load false [.int .i64] (.tmp 83), none⟩, none),
  (⟨some 85, .indexArr 64 1 (.tmp 9) (.tmp 84), none⟩, none),
  (⟨some 86, .load false [.int .u64] (.tmp 85), none⟩, none),
  (⟨some 87, .fieldAddr 1 (.tmp 12), none⟩, none),
  (⟨some 88, .fieldAddr 1 (.tmp 87), none⟩, none),
  (⟨some 89, .fieldAddr 1 (.tmp 88), none⟩, none),
  (⟨some 90, .load false [.int .i64] (.tmp 89), none⟩, none),
  (⟨some 91, .conv .u64 (.tmp 90), none⟩, none),
  (⟨some 92, .bin .add (.tmp 86) (.tmp 91), none⟩, none),
  (⟨some 93, .indexArr 64 1 (.tmp 9) (.tmp 81), none⟩, none),
  (⟨none, .store 1 (.tmp 93) (.tmp 92), none⟩, none)]
def c3_38 : ACode := .cond (.tmp 66) (.seq (.seq (.ops o3_41) (.cond (.tmp 78) (.seq (.ops o3_44) (.ret)) (.skip))) (.draw [] 0 o3_47 [])) (.skip)
def o3_52 : List AOper := [⟨some 94, .mv (.tmp 8), none⟩,
  ⟨some 95, .fieldAddr 5 (.tmp 12), none⟩,
  ⟨some 96, .load false [.int .i64] (.tmp 95), none⟩,
  ⟨some 97, .call false (.func 8) [.tmp 94, .tmp 96] [(false, [.slice])] true, none⟩,
  ⟨some 13, .mv (.tmp 97), none⟩]
def o3_55 : List AOper := [⟨some 14, .mv (.const (.int .i64 0)), none⟩]
def o3_60 : List AOper := [⟨some 98, .mv (.tmp 14), none⟩,
  ⟨some 99, .mv (.tmp 13), none⟩,
  ⟨some 100, .len (.tmp 99), none⟩,
  ⟨some 101, .bin .lss (.tmp 98) (.tmp 100), none⟩]
def o3_68 : List (AOper × Option Nat) := [(⟨some 104, .mv (.tmp 13), none⟩, none),
  (⟨some 105, .mv (.tmp 14), none⟩, none),
  (⟨some 106, .indexAddr 4 (.tmp 104) (.tmp 105), none⟩, none),
  (⟨some 107, .fieldAddr 0 (.tmp 106), none⟩, none),
  (⟨some 108, .load false [.int .i64] (.tmp 107), none⟩, none),
  (⟨some 109, .bin .lss (.tmp 108) (.const (.int .i64 0)), none⟩, none),
  (⟨some 110, .mv (.tmp 109), none⟩, none),
  (⟨some 111, .mv (.tmp 13), some (110, false)⟩, none),
  (⟨some 112, .mv (.tmp 14), some (110, false)⟩, none),
  (⟨some 113, .indexAddr 4 (.tmp 111) (.tmp 112), some (110, false)⟩, none),
  (⟨some 114, .fieldAddr 0 (.tmp 113), some (110, false)⟩, none),
  (⟨some 115, .load false [.int .i64] (.tmp 114), some (110, false)⟩, none),
  (⟨some 116, .fieldAddr 0 (.tmp 3), some (110, false)⟩, none),
  (⟨some 117, .load false [.int .i64] (.tmp 116), some (110, false)⟩, none),
  (⟨some 118, .bin .geq (.tmp 115) (.tmp 117), some (110, false)⟩, none),
  (⟨some 119, .pick (.tmp 110) (.const (.bool true)) (.tmp 118), none⟩, none),
  (⟨some 120, .mv (.tmp 119), none⟩, none),
  (⟨some 121, .mv (.tmp 13), some (120, false)⟩, none),
  (⟨some 122, .mv (.tmp 14), some (120, false)⟩, none),
  (⟨some 123, .indexAddr 4 (.tmp 121) (.tmp 122), some (120, false)⟩, none),
  (⟨some 124, .fieldAddr 0 (.tmp 123), some (120, false)⟩, none),
  (⟨some 125, .load false [.int .i64] (.tmp 124), some (120, false)⟩, none),
  (⟨some 126, .fieldAddr 1 (.tmp 3), some (120, false)⟩, none),
  (⟨some 127, .load false [.int .i64] (.tmp 126), some (120, false)⟩, none),
  (⟨some 128, .bin .rem (.tmp 125) (.tmp 127), some (120, false)⟩, none),
  (⟨some 129, .fieldAddr 5 (.tmp 12), some (120, false)⟩, none),
  (⟨some 130, .load false [.int .i64] (.tmp 129), some (120, false)⟩, none),
  (⟨some 131, .bin .neq (.tmp 128) (.tmp 130), some (120, false)⟩, none),
  (⟨some 132, .pick (.tmp 120) (.const (.bool true)) (.tmp 131), none⟩, none)]
def o3_71 : List AOper := [⟨some 6, .mv (.const (.bool false)), none⟩]
def c3_69 : ACode := .cond (.tmp 132) (.seq (.ops o3_71) (.ret)) (.skip)
def o3_74 : List (AOper × Option Nat) := [(⟨some 133, .mv (.tmp 13), none⟩, none),
  (⟨some 134, .mv (.tmp 14), none⟩, none),
  (⟨some 135, .indexAddr 4 (.tmp 133) (.tmp 134), none⟩, none),
  (⟨some 136, .fieldAddr 0 (.tmp 135), none⟩, none),
  (⟨some 137, .load false [.int .i64] (.tmp 136), none⟩, none),
  (⟨some 138, .mv (.tmp 13), none⟩, none),
  (⟨some 139, .mv (.tmp 14), none⟩, none),
  (⟨some 140, .indexAddr 4 (.tmp 138) (.tmp 139), none⟩, none),
  (⟨some 141, .fieldAddr 0 (.tmp 140), none⟩, none),
  (⟨some 142, .load false [.int .i64] (.tmp 141), none⟩, none),
  (⟨some 143, .indexArr 64 1 (.tmp 10) (.tmp 142), none⟩, none),
  (⟨some 144, .load false [.int .u64] (.tmp 143), none⟩, none),
  (⟨some 145, .mv (.tmp 13), none⟩, none),
  (⟨some 146, .mv (.tmp 14), none⟩, none),
  (⟨some 147, .indexAddr 4 (.tmp 145) (.tmp 146), none⟩, none),
  (⟨some 148, .fieldAddr 1 (.tmp 147), none⟩, none),
  (⟨some 149, .indexArr 3 1 (.tmp 148) (.const (.int .i64 1)), none⟩, none),
  (⟨some 150, .load false [.int .u64] (.tmp 149), none⟩, none),
  (⟨some 151, .bin .add (.tmp 144) (.tmp 150), none⟩, none),
  (⟨some 152, .indexArr 64 1 (.tmp 10) (.tmp 137), none⟩, none),
  (⟨none, .store 1 (.tmp 152) (.tmp 151), none⟩, none)]
def o3_75 : List AOper := [⟨some 102, .mv (.tmp 14), none⟩,
  ⟨some 103, .bin .add (.tmp 102) (.const (.int .i64 1)), none⟩,
  ⟨some 14, .mv (.tmp 103), none⟩]
def c3_75 : ACode := .ops o3_75
def b3_57 : ACode := .post (.seq (.seq (.ops o3_60) (.cond (.tmp 101) (.skip) (.exit 2))) (.seq (.block 3 (.seq (.seq (.draw [] 0 o3_68 []) (.clear zl0 c3_69)) (.draw [] 0 o3_74 []))) (.clear zl1 c3_75))) zl1
def o3_77 : List AOper := [⟨some 153, .mv (.tmp 8), none⟩,
  ⟨some 154, .fieldAddr 5 (.tmp 12), none⟩,
  ⟨some 155, .load false [.int .i64] (.tmp 154), none⟩,
  ⟨some 156, .call false (.func 8) [.tmp 153, .tmp 155] [(false, [.slice])] true, none⟩,
  ⟨some 157, .len (.tmp 156), none⟩,
  ⟨some 158, .bin .gtr (.tmp 157) (.const (.int .i64 0)), none⟩]
def o3_80 : List AOper := [⟨some 6, .mv (.const (.bool false)), none⟩]
def c3_76 : ACode := .seq (.ops o3_77) (.cond (.tmp 158) (.seq (.ops o3_80) (.ret)) (.skip))
def o3_83 : List AOper := [⟨some 54, .mv (.tmp 11), none⟩,
  ⟨some 55, .bin .add (.tmp 54) (.const (.int .i64 1)), none⟩,
  ⟨some 11, .mv (.tmp 55), none⟩]
def c3_83 : ACode := .ops o3_83
def b3_20 : ACode := .post (.seq (.seq (.ops o3_23) (.cond (.tmp 53) (.skip) (.exit 0))) (.seq (.block 1 (.seq (.ops o3_30) (.seq (.seq (.ops o3_33) (.cond (.tmp 62) (.seq (.seq (.ops o3_37) (.clear zl2 c3_38)) (.exit 1)) (.skip))) (.seq (.ops o3_52) (.seq (.seq (.ops o3_55) (.block 2 (.clear zl1 (.loop b3_57)))) (.clear zl3 c3_76)))))) (.clear zl4 c3_83))) zl4
def o3_86 : List AOper := [⟨some 159, .mv (.tmp 8), none⟩,
  ⟨some 160, .call false (.func 9) [.tmp 159] [(false, [.int .i64])] true, none⟩,
  ⟨some 161, .mv (.tmp 7), none⟩,
  ⟨some 162, .bin .gtr (.tmp 160) (.tmp 161), none⟩]
def o3_89 : List AOper := [⟨some 6, .mv (.const (.bool false)), none⟩]
def o3_93 : List AOper := [⟨some 163, .mv (.tmp 8), none⟩,
  ⟨some 164, .call false (.func 10) [.tmp 163] [(false, [.slice])] true, none⟩,
  ⟨some 15, .mv (.tmp 164), none⟩]
def o3_95 : List AOper := [⟨some 16, .mv (.const (.int .i64 0)), none⟩]
def o3_98 : List AOper := [⟨some 17, .mv (.const (.int .i64 0)), none⟩]
def o3_103 : List AOper := [⟨some 165, .mv (.tmp 17), none⟩,
  ⟨some 166, .mv (.tmp 15), none⟩,
  ⟨some 167, .len (.tmp 166), none⟩,
  ⟨some 168, .bin .lss (.tmp 165) (.tmp 167), none⟩]
def o3_110 : List AOper := [⟨some 171, .mv (.tmp 8), none⟩,
  ⟨some 172, .mv (.tmp 15), none⟩,
  ⟨some 173, .mv (.tmp 17), none⟩,
  ⟨some 174, .indexAddr 1 (.tmp 172) (.tmp 173), none⟩,
  ⟨some 175, .load false [.int .i64] (.tmp 174), none⟩,
  ⟨some 176, .call false (.func 8) [.tmp 171, .tmp 175] [(false, [.slice])] true, none⟩,
  ⟨some 18, .mv (.tmp 176), none⟩]
def o3_112 : List AOper := [⟨some 177, .mv (.tmp 16), none⟩,
  ⟨some 178, .mv (.tmp 18), none⟩,
  ⟨some 179, .len (.tmp 178), none⟩,
  ⟨some 180, .bin .add (.tmp 177) (.tmp 179), none⟩,
  ⟨some 16, .mv (.tmp 180), none⟩]
def o3_114 : List AOper := [⟨some 19, .mv (.const (.int .i64 0)), none⟩]
def o3_119 : List AOper := [⟨some 181, .mv (.tmp 19), none⟩,
  ⟨some 182, .mv (.tmp 18), none⟩,
  ⟨some 183, .len (.tmp 182), none⟩,
  ⟨some 184, .bin .lss (.tmp 181) (.tmp 183), none⟩]
def o3_127 : List (AOper × Option Nat) := [(⟨some 187, .mv (.tmp 18), none⟩, none),
  (⟨some 188, .mv (.tmp 19), none⟩, none),
  (⟨some 189, .indexAddr 4 (.tmp 187) (.tmp 188), none⟩, none),
  (⟨some 190, .fieldAddr 0 (.tmp 189), none⟩, none),
  (⟨some 191, .load false [.int .i64] (.tmp 190), none⟩, none),
  (⟨some 192, .bin .lss (.tmp 191) (.const (.int .i64 0)), none⟩, none),
  (⟨some 193, .mv (.tmp 192), none⟩, none),
  (⟨some 194, .mv (.tmp 18), some (193, false)⟩, none),
  (⟨some 195, .mv (.tmp 19), some (193, false)⟩, none),
  (⟨some 196, .indexAddr 4 (.tmp 194) (.tmp 195), some (193, false)⟩, none),
  (⟨some 197, .fieldAddr 0 (.tmp 196), some (193, false)⟩, none),
  (⟨some 198, .load false [.int .i64] (.tmp 197), some (193, false)⟩, none),
  (⟨some 199, .fieldAddr 0 (.tmp 3), some (193, false)⟩, none),
  (⟨some 200, .load false [.int .i64] (.tmp 199), some (193, false)⟩, none),
  (⟨some 201, .bin .geq (.tmp 198) (.tmp 200), some (193, false)⟩, none),
  (⟨some 202, .pick (.tmp 193) (.const (.bool true)) (.tmp 201), none⟩, none)]
def o3_130 : List AOper := [⟨some 6, .mv (.const (.bool false)), none⟩]
def o3_133 : List (AOper × Option Nat) := [(⟨some 203, .mv (.tmp 18), none⟩, none),
  (⟨some 204, .mv (.tmp 19), none⟩, none),
  (⟨some 205, .indexAddr 4 (.tmp 203) (.tmp 204), none⟩, none),
  (⟨some 206, .fieldAddr 0 (.tmp 205), none⟩, none),
  (⟨some 207, .load false [.int .i64] (.tmp 206), none⟩, none),
  (⟨some 208, .mv (.tmp 18), none⟩, none),
  (⟨some 209, .mv (.tmp 19), none⟩, none),
  (⟨some 210, .indexAddr 4 (.tmp 208) (.tmp 209), none⟩, none),
  (⟨some 211, .fieldAddr 0 (.tmp 210), none⟩, none),
  (⟨some 212, .load false [.int .i64] (.tmp 211), none⟩, none),
  (⟨some 213, .indexArr 64 1 (.tmp 10) (.tmp 212), none⟩, none),
  (⟨some 214, .load false [.int .u64] (.tmp 213), none⟩, none),
  (⟨some 215, .mv (.tmp 18), none⟩, none),
  (⟨some 216, .mv (.tmp 19), none⟩, none),
  (⟨some 217, .indexAddr 4 (.tmp 215) (.tmp 216), none⟩, none),
  (⟨some 218, .fieldAddr 1 (.tmp 217), none⟩, none),
  (⟨some 219, .indexArr 3 1 (.tmp 218) (.const (.int .i64 1)), none⟩, none),
  (⟨some 220, .load false [.int .u64] (.tmp 219), none⟩, none),
  (⟨some 221, .bin .add (.tmp 214) (.tmp 220), none⟩, none),
  (⟨some 222, .indexArr 64 1 (.tmp 10) (.tmp 207), none⟩, none),
  (⟨none, .store 1 (.tmp 222) (.tmp 221), none⟩, none)]
def o3_134 : List AOper := [⟨some 185, .mv (.tmp 19), none⟩,
  ⟨some 186, .bin .add (.tmp 185) (.const (.int .i64 1)), none⟩,
  ⟨some 19, .mv (.tmp 186), none⟩]
def c3_134 : ACode := .ops o3_134
def b3_116 : ACode := .post (.seq (.seq (.ops o3_119) (.cond (.tmp 184) (.skip) (.exit 6))) (.seq (.block 7 (.seq (.seq (.draw [] 0 o3_127 []) (.cond (.tmp 202) (.seq (.ops o3_130) (.ret)) (.skip))) (.draw [] 0 o3_133 []))) (.clear zl5 c3_134))) zl5
def c3_113 : ACode := .seq (.ops o3_114) (.block 6 (.clear zl5 (.loop b3_116)))
def o3_135 : List AOper := [⟨some 169, .mv (.tmp 17), none⟩,
  ⟨some 170, .bin .add (.tmp 169) (.const (.int .i64 1)), none⟩,
  ⟨some 17, .mv (.tmp 170), none⟩]
def c3_135 : ACode := .ops o3_135
def b3_100 : ACode := .post (.seq (.seq (.ops o3_103) (.cond (.tmp 168) (.skip) (.exit 4))) (.seq (.block 5 (.seq (.ops o3_110) (.seq (.ops o3_112) (.clear zl6 c3_113)))) (.clear zl7 c3_135))) zl7
def o3_137 : List AOper := [⟨some 223, .load true [.int .u64, .int .u64, .int .u64, .int .u64, .int .u64, .int .u64, .int .u64, .int .u64, .int .u64, .int .u64, .int .u64, .int .u64, .int .u64, .int .u64, .int .u64, .int .u64, .int .u64, .int .u64, .int .u64, .int .u64, .int .u64, .int .u64, .int .u64, .int .u64, .int .u64, .int .u64, .int .u64, .int .u64, .int .u64, .int .u64, .int .u64, .int .u64, .int .u64, .int .u64, .int .u64, .int .u64, .int .u64, .int .u64, .int .u64, .int .u64, .int .u64, .int .u64, .int .u64, .int .u64, .int .u64, .int .u64, .int .u64, .int .u64, .int .u64, .int .u64, .int .u64, .int .u64, .int .u64, .int .u64, .int .u64, .int .u64, .int .u64, .int .u64, .int .u64, .int .u64, .int .u64, .int .u64, .int .u64, .int .u64] (.tmp 9), none⟩,
  ⟨some 224, .load true [.int .u64, .int .u64, .int .u64, .int .u64, .int .u64, .int .u64, .int .u64, .int .u64, .int .u64, .int .u64, .int .u64, .int .u64, .int .u64, .int .u64, .int .u64, .int .u64, .int .u64, .int .u64, .int .u64, .int .u64, .int .u64, .int .u64, .int .u64, .int .u64, .int .u64, .int .u64, .int .u64, .int .u64, .int .u64, .int .u64, .int .u64, .int .u64, .int .u64, .int .u64, .int .u64, .int .u64, .int .u64, .int .u64, .int .u64, .int .u64, .int .u64, .int .u64, .int .u64, .int .u64, .int .u64, .int .u64, .int .u64, .int .u64, .int .u64, .int .u64, .int .u64, .int .u64, .int .u64, .int .u64, .int .u64, .int .u64, .int .u64, .int .u64, .int .u64, .int .u64, .int .u64, .int .u64, .int .u64, .int .u64] (.tmp 10), none⟩,
  ⟨some 225, .eqAgg [.int .u64, .int .u64, .int .u64, .int .u64, .int .u64, .int .u64, .int .u64, .int .u64, .int .u64, .int .u64, .int .u64, .int .u64, .int .u64, .int .u64, .int .u64, .int .u64, .int .u64, .int .u64, .int .u64, .int .u64, .int .u64, .int .u64, .int .u64, .int .u64, .int .u64, .int .u64, .int .u64, .int .u64, .int .u64, .int .u64, .int .u64, .int .u64, .int .u64, .int .u64, .int .u64, .int .u64, .int .u64, .int .u64, .int .u64, .int .u64, .int .u64, .int .u64, .int .u64, .int .u64, .int .u64, .int .u64, .int .u64, .int .u64, .int .u64, .int .u64, .int .u64, .int .u64, .int .u64, .int .u64, .int .u64, .int .u64, .int .u64, .int .u64, .int .u64, .int .u64, .int .u64, .int .u64, .int .u64, .int .u64] false (.tmp 223) (.tmp 224), none⟩,
  ⟨some 226, .mv (.tmp 225), none⟩,
  ⟨some 227, .mv (.tmp 8), some (226, true)⟩,
  ⟨some 228, .call false (.func 9) [.tmp 227] [(false, [.int .i64])] true, some (226, true)⟩,
  ⟨some 229, .bin .eql (.tmp 228) (.const (.int .i64 0)), some (226, true)⟩,
  ⟨some 230, .pick (.tmp 226) (.tmp 229) (.const (.bool false)), none⟩,
  ⟨some 231, .mv (.tmp 230), none⟩,
  ⟨some 232, .mv (.tmp 16), some (231, true)⟩,
  ⟨some 233, .mv (.tmp 7), some (231, true)⟩,
  ⟨some 234, .bin .leq (.tmp 232) (.tmp 233), some (231, true)⟩,
  ⟨some 235, .pick (.tmp 231) (.tmp 234) (.const (.bool false)), none⟩,
  ⟨some 236, .mv (.tmp 235), none⟩,
  ⟨some 237, .call true (.func 5) [] [(false, [.bool])] true, some (236, true)⟩,
  ⟨some 238, .pick (.tmp 236) (.tmp 237) (.const (.bool false)), none⟩,
  ⟨some 6, .mv (.tmp 238), none⟩]
def c3_136 : ACode := .seq (.ops o3_137) (.ret)
def c3_84 : ACode := .seq (.seq (.ops o3_86) (.cond (.tmp 162) (.seq (.ops o3_89) (.ret)) (.skip))) (.seq (.ops o3_93) (.seq (.ops o3_95) (.seq (.seq (.ops o3_98) (.block 4 (.clear zl7 (.loop b3_100)))) (.clear zl8 c3_136))))
def c3_12 : ACode := .seq (.ops o3_13) (.seq (.ops o3_15) (.seq (.seq (.ops o3_18) (.block 0 (.clear zl4 (.loop b3_20)))) (.clear zl9 c3_84)))
def c3_0 : ACode := .seq (.ops o3_1) (.seq (.seq (.ops o3_4) (.cond (.tmp 37) (.seq (.ops o3_7) (.ret)) (.skip))) (.seq (.ops o3_11) (.clear zl10 c3_12)))
def a3 : AFun := ⟨239, [.tmp 6], c3_0⟩
theorem ok3 : OkFun Try.prog 3 a3 := ⟨Try.f3, Try.f3.body.getD .skip, Try.func3, by kernel_rfl, by kernel_rfl, by kernel_rfl, by kernel_rfl, by kernel_rfl⟩
/-! #### skylightref31.Right -/
def o4_1 : List AOper := [⟨some 1, .box (.tmp 0), none⟩,
  ⟨some 2, .mv (.const (.bool false)), none⟩]
def o4_3 : List AOper := [⟨some 3, .fieldAddr 0 (.tmp 1), none⟩,
  ⟨some 4, .load false [.int .i64] (.tmp 3), none⟩,
  ⟨some 5, .bin .geq (.tmp 4) (.const (.int .i64 1)), none⟩,
  ⟨some 6, .mv (.tmp 5), none⟩,
  ⟨some 7, .fieldAddr 0 (.tmp 1), some (6, true)⟩,
  ⟨some 8, .load false [.int .i64] (.tmp 7), some (6, true)⟩,
  ⟨some 9, .bin .leq (.tmp 8) (.const (.int .i64 65536)), some (6, true)⟩,
  ⟨some 10, .pick (.tmp 6) (.tmp 9) (.const (.bool false)), none⟩,
  ⟨some 11, .mv (.tmp 10), none⟩,
  ⟨some 12, .fieldAddr 1 (.tmp 1), some (11, true)⟩,
  ⟨some 13, .load false [.int .i64] (.tmp 12), some (11, true)⟩,
  ⟨some 14, .bin .geq (.tmp 13) (.const (.int .i64 1)), some (11, true)⟩,
  ⟨some 15, .pick (.tmp 11) (.tmp 14) (.const (.bool false)), none⟩,
  ⟨some 16, .mv (.tmp 15), none⟩,
  ⟨some 17, .fieldAddr 1 (.tmp 1), some (16, true)⟩,
  ⟨some 18, .load false [.int .i64] (.tmp 17), some (16, true)⟩,
  ⟨some 19, .bin .leq (.tmp 18) (.const (.int .i64 256)), some (16, true)⟩,
  ⟨some 20, .pick (.tmp 16) (.tmp 19) (.const (.bool false)), none⟩,
  ⟨some 2, .mv (.tmp 20), none⟩]
def c4_0 : ACode := .seq (.ops o4_1) (.seq (.ops o4_3) (.ret))
def a4 : AFun := ⟨21, [.tmp 2], c4_0⟩
theorem ok4 : OkFun Try.prog 4 a4 := ⟨Try.f4, Try.f4.body.getD .skip, Try.func4, by kernel_rfl, by kernel_rfl, by kernel_rfl, by kernel_rfl, by kernel_rfl⟩
/-! #### skylightlaw32.awake -/
def o5_1 : List AOper := [⟨some 0, .mv (.const (.bool false)), none⟩]
def o5_3 : List AOper := [⟨some 5, .build [.int .i64 0, .int .i64 0] [(0, 1, .const (.int .i64 9)), (1, 1, .const (.int .i64 2))], none⟩,
  ⟨some 6, .call false (.func 6) [.tmp 5, .const (.int .i64 1)] [(false, [.ptr])] true, none⟩,
  ⟨some 1, .mv (.tmp 6), none⟩]
def o5_5 : List AOper := [⟨some 7, .build [.int .i64 0, .int .i64 0, .int .i64 0] [(0, 1, .const (.int .i64 1))], none⟩,
  ⟨some 2, .alloc [.int .i64 0, .int .i64 0, .int .i64 0], none⟩,
  ⟨none, .store 3 (.tmp 2) (.tmp 7), none⟩]
def o5_8 : List AOper := [⟨some 8, .mv (.tmp 1), none⟩,
  ⟨some 9, .load true [.int .i64, .int .i64, .int .i64] (.tmp 2), none⟩,
  ⟨some 10, .build [.int .i64 0, .int .i64 0, .int .i64 0, .int .i64 0] [(0, 1, .const (.int .i64 3)), (1, 3, .tmp 9)], none⟩,
  ⟨some 11, .call false (.func 7) [.tmp 8, .tmp 10] [(false, [.bool])] true, none⟩,
  ⟨some 12, .un .not (.tmp 11), none⟩,
  ⟨some 13, .mv (.tmp 12), none⟩,
  ⟨some 14, .mv (.tmp 1), some (13, false)⟩,
  ⟨some 15, .load true [.int .i64, .int .i64, .int .i64] (.tmp 2), some (13, false)⟩,
  ⟨some 16, .build [.int .i64 0, .int .i64 0, .int .i64 0, .int .i64 0] [(0, 1, .const (.int .i64 3)), (1, 3, .tmp 15)], some (13, false)⟩,
  ⟨some 17, .call false (.func 7) [.tmp 14, .tmp 16] [(false, [.bool])] true, some (13, false)⟩,
  ⟨some 18, .un .not (.tmp 17), some (13, false)⟩,
  ⟨some 19, .pick (.tmp 13) (.const (.bool true)) (.tmp 18), none⟩,
  ⟨some 20, .mv (.tmp 19), none⟩,
  ⟨some 21, .mv (.tmp 1), some (20, false)⟩,
  ⟨some 22, .load true [.int .i64, .int .i64, .int .i64] (.tmp 2), some (20, false)⟩,
  ⟨some 23, .build [.int .i64 0, .int .i64 0, .int .i64 0, .int .i64 0] [(0, 1, .const (.int .i64 4)), (1, 3, .tmp 22)], some (20, false)⟩,
  ⟨some 24, .call false (.func 7) [.tmp 21, .tmp 23] [(false, [.bool])] true, some (20, false)⟩,
  ⟨some 25, .pick (.tmp 20) (.const (.bool true)) (.tmp 24), none⟩]
def o5_11 : List AOper := [⟨some 0, .mv (.const (.bool false)), none⟩]
def o5_15 : List AOper := [⟨some 27, .mv (.tmp 1), none⟩,
  ⟨some 28, .call false (.func 11) [.tmp 27, .const (.int .i64 3)] [(true, [.int .u64, .int .u64, .int .u64]), (false, [.bool])] false, none⟩,
  ⟨some 26, .mv (.tmp 28), none⟩,
  ⟨some 29, .extract (.tmp 26) 0, none⟩,
  ⟨some 30, .extract (.tmp 26) 1, none⟩,
  ⟨some 3, .alloc [.int .u64 0, .int .u64 0, .int .u64 0], none⟩,
  ⟨none, .store 3 (.tmp 3) (.tmp 29), none⟩,
  ⟨some 4, .mv (.tmp 30), none⟩]
def o5_17 : List AOper := [⟨some 31, .mv (.tmp 4), none⟩,
  ⟨some 32, .mv (.tmp 31), none⟩,
  ⟨some 33, .load true [.int .u64, .int .u64, .int .u64] (.tmp 3), some (32, true)⟩,
  ⟨some 34, .build [.int .u64 0, .int .u64 0, .int .u64 0] [(0, 1, .const (.int .u64 2)), (1, 1, .const (.int .u64 0)), (2, 1, .const (.int .u64 0))], some (32, true)⟩,
  ⟨some 35, .eqAgg [.int .u64, .int .u64, .int .u64] false (.tmp 33) (.tmp 34), some (32, true)⟩,
  ⟨some 36, .pick (.tmp 32) (.tmp 35) (.const (.bool false)), none⟩,
  ⟨some 37, .mv (.tmp 36), none⟩,
  ⟨some 38, .mv (.tmp 1), some (37, true)⟩,
  ⟨some 39, .call false (.func 10) [.tmp 38] [(false, [.slice])] true, some (37, true)⟩,
  ⟨some 40, .len (.tmp 39), some (37, true)⟩,
  ⟨some 41, .bin .eql (.tmp 40) (.const (.int .i64 1)), some (37, true)⟩,
  ⟨some 42, .pick (.tmp 37) (.tmp 41) (.const (.bool false)), none⟩,
  ⟨some 43, .mv (.tmp 42), none⟩,
  ⟨some 44, .mv (.tmp 1), some (43, true)⟩,
  ⟨some 45, .call false (.func 8) [.tmp 44, .const (.int .i64 1)] [(false, [.slice])] true, some (43, true)⟩,
  ⟨some 46, .len (.tmp 45), some (43, true)⟩,
  ⟨some 47, .bin .eql (.tmp 46) (.const (.int .i64 1)), some (43, true)⟩,
  ⟨some 48, .pick (.tmp 43) (.tmp 47) (.const (.bool false)), none⟩,
  ⟨some 49, .mv (.tmp 48), none⟩,
  ⟨some 50, .mv (.tmp 1), some (49, true)⟩,
  ⟨some 51, .call false (.func 9) [.tmp 50] [(false, [.int .i64])] true, some (49, true)⟩,
  ⟨some 52, .bin .eql (.tmp 51) (.const (.int .i64 0)), some (49, true)⟩,
  ⟨some 53, .pick (.tmp 49) (.tmp 52) (.const (.bool false)), none⟩,
  ⟨some 0, .mv (.tmp 53), none⟩]
def c5_0 : ACode := .seq (.ops o5_1) (.seq (.ops o5_3) (.seq (.ops o5_5) (.seq (.seq (.ops o5_8) (.cond (.tmp 25) (.seq (.ops o5_11) (.ret)) (.skip))) (.seq (.ops o5_15) (.seq (.ops o5_17) (.ret))))))
def a5 : AFun := ⟨54, [.tmp 0], c5_0⟩
theorem ok5 : OkFun Try.prog 5 a5 := ⟨Try.f5, Try.f5.body.getD .skip, Try.func5, by kernel_rfl, by kernel_rfl, by kernel_rfl, by kernel_rfl, by kernel_rfl⟩
/-! #### combine.New -/
def o6_1 : List AOper := [⟨some 2, .box (.tmp 0), none⟩,
  ⟨some 4, .mv (.const (.pointer none)), none⟩]
def o6_4 : List AOper := [⟨some 5, .load true [.int .i64, .int .i64] (.tmp 2), none⟩,
  ⟨some 6, .call true (.func 12) [.tmp 5] [(false, [.bool])] true, none⟩,
  ⟨some 7, .un .not (.tmp 6), none⟩,
  ⟨some 8, .mv (.tmp 7), none⟩,
  ⟨some 9, .mv (.tmp 1), some (8, false)⟩,
  ⟨some 10, .bin .lss (.tmp 9) (.const (.int .i64 1)), some (8, false)⟩,
  ⟨some 11, .pick (.tmp 8) (.const (.bool true)) (.tmp 10), none⟩,
  ⟨some 12, .mv (.tmp 11), none⟩,
  ⟨some 13, .mv (.tmp 1), some (12, false)⟩,
  ⟨some 14, .bin .gtr (.tmp 13) (.const (.int .i64 4096)), some (12, false)⟩,
  ⟨some 15, .pick (.tmp 12) (.const (.bool true)) (.tmp 14), none⟩]
def o6_7 : List AOper := [⟨some 4, .mv (.const (.pointer none)), none⟩]
def o6_11 : List AOper := [⟨some 16, .load true [.int .i64, .int .i64] (.tmp 2), none⟩,
  ⟨some 17, .mv (.tmp 1), none⟩,
  ⟨some 18, .map .make .i64 .i64 (.const (.bool false)) (.const (.bool false)) (.const (.bool false)), none⟩,
  ⟨some 19, .build [.int .i64 0, .int .i64 0, .int .i64 0, (Value.map none), .slice none 0 0] [(0, 2, .tmp 16), (2, 1, .tmp 17), (3, 1, .tmp 18)], none⟩,
  ⟨some 20, .box (.tmp 19), none⟩,
  ⟨some 4, .mv (.tmp 20), none⟩]
def c6_0 : ACode := .seq (.ops o6_1) (.seq (.seq (.ops o6_4) (.cond (.tmp 15) (.seq (.ops o6_7) (.ret)) (.skip))) (.seq (.ops o6_11) (.ret)))
def a6 : AFun := ⟨21, [.tmp 4], c6_0⟩
theorem ok6 : OkFun Try.prog 6 a6 := ⟨Try.f6, Try.f6.body.getD .skip, Try.func6, by kernel_rfl, by kernel_rfl, by kernel_rfl, by kernel_rfl, by kernel_rfl⟩
/-! #### combine.Buffer.Put -/
def o7_1 : List AOper := [⟨some 3, .box (.tmp 1), none⟩,
  ⟨some 4, .mv (.const (.bool false)), none⟩]
def o7_4 : List (AOper × Option Nat) := [(⟨some 10, .mv (.tmp 0), none⟩, none),
  (⟨some 11, .call false (.func 13) [.tmp 10] [(false, [.bool])] true, none⟩, none),
  (⟨some 12, .un .not (.tmp 11), none⟩, none),
  (⟨some 13, .mv (.tmp 12), none⟩, none),
  (⟨some 14, .mv (.tmp 0), some (13, false)⟩, none),
  (⟨some 15, .nilCheck (.tmp 14), some (13, false)⟩, none),
  (⟨some 16, .fieldAddr 0 (.tmp 15), some (13, false)⟩, none),
  (⟨some 17, .load true [.int .i64, .int .i64] (.tmp 16), some (13, false)⟩, none),
  (⟨some 18, .fieldAddr 0 (.tmp 3), some (13, false)⟩, none),
  (⟨some 19, .load false [.int .i64] (.tmp 18), some (13, false)⟩, none),
  (⟨some 20, .call true (.func 14) [.tmp 17, .tmp 19] [(false, [.int .i64])] true, some (13, false)⟩, none),
  (⟨some 21, .bin .lss (.tmp 20) (.const (.int .i64 0)), some (13, false)⟩, none),
  (⟨some 22, .pick (.tmp 13) (.const (.bool true)) (.tmp 21), none⟩, none),
  (⟨some 23, .mv (.tmp 22), none⟩, none),
  (⟨some 24, .fieldAddr 1 (.tmp 3), some (23, false)⟩, none),
  (⟨some 25, .load true [.int .i64, .int .i64, .int .i64] (.tmp 24), some (23, false)⟩, none),
  (⟨some 26, .call true (.func 15) [.tmp 25] [(false, [.bool])] true, some (23, false)⟩, none),
  (⟨some 27, .un .not (.tmp 26), some (23, false)⟩, none),
  (⟨some 28, .pick (.tmp 23) (.const (.bool true)) (.tmp 27), none⟩, none)]
def o7_7 : List AOper := [⟨some 4, .mv (.const (.bool false)), none⟩]
def o7_11 : List (AOper × Option Nat) := [(⟨some 30, .mv (.tmp 0), none⟩, none),
  (⟨some 31, .nilCheck (.tmp 30), none⟩, none),
  (⟨some 32, .fieldAddr 3 (.tmp 31), none⟩, none),
  (⟨some 33, .load false [.any] (.tmp 32), none⟩, none),
  (⟨some 34, .fieldAddr 0 (.tmp 3), none⟩, none),
  (⟨some 35, .load false [.int .i64] (.tmp 34), none⟩, none),
  (⟨some 36, .map (.look true) .i64 .i64 (.tmp 33) (.tmp 35) (.const (.bool false)), none⟩, none),
  (⟨some 29, .mv (.tmp 36), none⟩, none),
  (⟨some 37, .extract (.tmp 29) 0, none⟩, none),
  (⟨some 38, .extract (.tmp 29) 1, none⟩, none),
  (⟨some 5, .mv (.tmp 37), none⟩, none),
  (⟨some 6, .mv (.tmp 38), none⟩, none)]
def o7_15 : List (AOper × Option Nat) := [(⟨some 40, .mv (.tmp 6), none⟩, none),
  (⟨some 41, .un .not (.tmp 40), none⟩, none),
  (⟨some 42, .mv (.tmp 41), none⟩, none),
  (⟨some 43, .mv (.tmp 0), some (42, true)⟩, none),
  (⟨some 44, .nilCheck (.tmp 43), some (42, true)⟩, none),
  (⟨some 45, .fieldAddr 4 (.tmp 44), some (42, true)⟩, none),
  (⟨some 46, .load false [.slice] (.tmp 45), some (42, true)⟩, none),
  (⟨some 47, .len (.tmp 46), some (42, true)⟩, none),
  (⟨some 48, .mv (.tmp 0), some (42, true)⟩, none),
  (⟨some 49, .nilCheck (.tmp 48), some (42, true)⟩, none),
  (⟨some 50, .fieldAddr 2 (.tmp 49), some (42, true)⟩, none),
  (⟨some 51, .load false [.int .i64] (.tmp 50), some (42, true)⟩, none),
  (⟨some 52, .bin .eql (.tmp 47) (.tmp 51), some (42, true)⟩, none),
  (⟨some 53, .pick (.tmp 42) (.tmp 52) (.const (.bool false)), none⟩, none),
  (⟨some 39, .mv (.tmp 53), none⟩, none)]
def o7_18 : List AOper := [⟨some 4, .mv (.const (.bool false)), none⟩]
def o7_21 : List AOper := [⟨some 55, .mv (.tmp 6), none⟩,
  ⟨some 56, .un .not (.tmp 55), none⟩,
  ⟨some 54, .mv (.tmp 56), none⟩]
def o7_24 : List AOper := [⟨some 57, .mv (.tmp 0), none⟩,
  ⟨some 58, .nilCheck (.tmp 57), none⟩,
  ⟨some 59, .fieldAddr 4 (.tmp 58), none⟩,
  ⟨some 60, .load false [.slice] (.tmp 59), none⟩,
  ⟨some 61, .len (.tmp 60), none⟩,
  ⟨some 5, .mv (.tmp 61), none⟩]
def o7_26 : List (AOper × Option Nat) := [(⟨some 62, .mv (.tmp 0), none⟩, none),
  (⟨some 63, .nilCheck (.tmp 62), none⟩, none),
  (⟨some 64, .fieldAddr 3 (.tmp 63), none⟩, none),
  (⟨some 65, .load false [.any] (.tmp 64), none⟩, none),
  (⟨some 66, .fieldAddr 0 (.tmp 3), none⟩, none),
  (⟨some 67, .load false [.int .i64] (.tmp 66), none⟩, none),
  (⟨some 68, .mv (.tmp 5), none⟩, none),
  (⟨none, .map .upd .i64 .i64 (.tmp 65) (.tmp 67) (.tmp 68), none⟩, none)]
def o7_27 : List (AOper × Option Nat) := [(⟨some 69, .mv (.tmp 0), none⟩, none),
  (⟨some 70, .mv (.tmp 0), none⟩, none),
  (⟨some 71, .nilCheck (.tmp 70), none⟩, none),
  (⟨some 72, .fieldAddr 4 (.tmp 71), none⟩, none),
  (⟨some 73, .load false [.slice] (.tmp 72), none⟩, none),
  (⟨some 74, .fieldAddr 0 (.tmp 3), none⟩, none),
  (⟨some 75, .load false [.int .i64] (.tmp 74), none⟩, none),
  (⟨some 76, .build [.int .i64 0, .int .u64 0, .int .u64 0, .int .u64 0] [(0, 1, .tmp 75)], none⟩, none),
  (⟨some 77, .buildSlice 4 1 [.int .i64 0, .int .u64 0, .int .u64 0, .int .u64 0] [(0, 4, .tmp 76)], none⟩, none),
  (⟨some 78, .append 4 32 (.tmp 73) (.tmp 77), none⟩, none),
  (⟨some 79, .nilCheck (.tmp 69), none⟩, none),
  (⟨some 80, .fieldAddr 4 (.tmp 79), none⟩, none),
  (⟨none, .store 1 (.tmp 80) (.tmp 78), none⟩, none)]
def c7_25 : ACode := .seq (.draw [] 0 o7_26 []) (.draw [] 0 o7_27 [(4, 8)])
def o7_30 : List AOper := [⟨some 81, .mv (.tmp 0), none⟩,
  ⟨some 82, .nilCheck (.tmp 81), none⟩,
  ⟨some 83, .fieldAddr 4 (.tmp 82), none⟩,
  ⟨some 84, .load false [.slice] (.tmp 83), none⟩,
  ⟨some 85, .mv (.tmp 5), none⟩,
  ⟨some 86, .indexAddr 4 (.tmp 84) (.tmp 85), none⟩,
  ⟨some 87, .fieldAddr 1 (.tmp 86), none⟩,
  ⟨some 7, .mv (.tmp 87), none⟩]
def o7_33 : List AOper := [⟨some 88, .fieldAddr 1 (.tmp 3), none⟩,
  ⟨some 89, .fieldAddr 0 (.tmp 88), none⟩,
  ⟨some 90, .load false [.int .i64] (.tmp 89), none⟩,
  ⟨some 91, .fieldAddr 1 (.tmp 3), none⟩,
  ⟨some 92, .fieldAddr 1 (.tmp 91), none⟩,
  ⟨some 93, .load false [.int .i64] (.tmp 92), none⟩,
  ⟨some 94, .fieldAddr 1 (.tmp 3), none⟩,
  ⟨some 95, .fieldAddr 2 (.tmp 94), none⟩,
  ⟨some 96, .load false [.int .i64] (.tmp 95), none⟩,
  ⟨some 97, .build [.int .i64 0, .int .i64 0, .int .i64 0] [(0, 1, .tmp 90), (1, 1, .tmp 93), (2, 1, .tmp 96)], none⟩,
  ⟨some 98, .mv (.const (.int .i64 0)), none⟩]
def o7_37 : List AOper := [⟨some 99, .bin .lss (.tmp 98) (.const (.int .i64 3)), none⟩]
def o7_45 : List AOper := [⟨some 100, .mv (.tmp 98), none⟩,
  ⟨some 101, .index false 3 1 (.tmp 97) (.tmp 98), none⟩,
  ⟨some 8, .mv (.tmp 100), none⟩,
  ⟨some 9, .mv (.tmp 101), none⟩]
def o7_46 : List (AOper × Option Nat) := [(⟨some 102, .mv (.tmp 7), none⟩, none),
  (⟨some 103, .mv (.tmp 8), none⟩, none),
  (⟨some 104, .nilCheck (.tmp 102), none⟩, none),
  (⟨some 105, .indexArr 3 1 (.tmp 104) (.tmp 103), none⟩, none),
  (⟨some 106, .load false [.int .u64] (.tmp 105), none⟩, none),
  (⟨some 107, .mv (.tmp 9), none⟩, none),
  (⟨some 108, .conv .u64 (.tmp 107), none⟩, none),
  (⟨some 109, .bin .add (.tmp 106) (.tmp 108), none⟩, none),
  (⟨some 110, .nilCheck (.tmp 102), none⟩, none),
  (⟨some 111, .indexArr 3 1 (.tmp 110) (.tmp 103), none⟩, none),
  (⟨none, .store 1 (.tmp 111) (.tmp 109), none⟩, none)]
def o7_47 : List AOper := [⟨some 112, .bin .add (.tmp 98) (.const (.int .i64 1)), none⟩,
  ⟨some 98, .mv (.tmp 112), none⟩]
def c7_47 : ACode := .ops o7_47
def b7_35 : ACode := .post (.seq (.ops o7_37) (.seq (.cond (.tmp 99) (.skip) (.exit 1)) (.seq (.block 2 (.seq (.ops o7_45) (.draw [] 0 o7_46 []))) (.clear zl11 c7_47)))) zl11
def o7_49 : List AOper := [⟨some 4, .mv (.const (.bool true)), none⟩]
def c7_48 : ACode := .seq (.ops o7_49) (.ret)
def c7_29 : ACode := .seq (.ops o7_30) (.seq (.seq (.ops o7_33) (.block 1 (.clear zl11 (.loop b7_35)))) (.clear zl12 c7_48))
def c7_0 : ACode := .seq (.ops o7_1) (.seq (.seq (.draw [] 0 o7_4 []) (.cond (.tmp 28) (.seq (.ops o7_7) (.ret)) (.skip))) (.seq (.draw [] 0 o7_11 []) (.seq (.block 0 (.seq (.draw [] 0 o7_15 []) (.cond (.tmp 39) (.seq (.ops o7_18) (.ret)) (.seq (.ops o7_21) (.cond (.tmp 54) (.seq (.ops o7_24) (.clear zl13 c7_25)) (.skip)))))) (.clear zl13 c7_29))))
def a7 : AFun := ⟨113, [.tmp 4], c7_0⟩
theorem ok7 : OkFun Try.prog 7 a7 := ⟨Try.f7, Try.f7.body.getD .skip, Try.func7, by kernel_rfl, by kernel_rfl, by kernel_rfl, by kernel_rfl, by kernel_rfl⟩
/-! #### combine.Buffer.Take -/
def o8_1 : List AOper := [⟨some 4, .mv (.const (.slice none 0 0)), none⟩]
def o8_4 : List AOper := [⟨some 9, .mv (.tmp 0), none⟩,
  ⟨some 10, .call false (.func 13) [.tmp 9] [(false, [.bool])] true, none⟩,
  ⟨some 11, .un .not (.tmp 10), none⟩]
def o8_7 : List AOper := [⟨some 4, .mv (.const (.slice none 0 0)), none⟩]
def o8_11 : List AOper := [⟨some 5, .mv (.const (.slice none 0 0)), none⟩,
  ⟨some 6, .mv (.const (.slice none 0 0)), none⟩]
def o8_14 : List AOper := [⟨some 12, .mv (.tmp 0), none⟩,
  ⟨some 13, .nilCheck (.tmp 12), none⟩,
  ⟨some 14, .fieldAddr 4 (.tmp 13), none⟩,
  ⟨some 15, .load false [.slice] (.tmp 14), none⟩,
  ⟨some 16, .len (.tmp 15), none⟩,
  ⟨some 17, .mv (.const (.int .i64 0)), none⟩]
def o8_18 : List AOper := [⟨some 18, .bin .lss (.tmp 17) (.tmp 16), none⟩]
def o8_26 : List AOper := [⟨some 19, .indexAddr 4 (.tmp 15) (.tmp 17), none⟩,
  ⟨some 20, .load true [.int .i64, .int .u64, .int .u64, .int .u64] (.tmp 19), none⟩,
  ⟨some 8, .alloc [.int .i64 0, .int .u64 0, .int .u64 0, .int .u64 0], none⟩,
  ⟨none, .store 4 (.tmp 8) (.tmp 20), none⟩]
def o8_29 : List (AOper × Option Nat) := [(⟨some 21, .mv (.tmp 0), none⟩, none),
  (⟨some 22, .nilCheck (.tmp 21), none⟩, none),
  (⟨some 23, .fieldAddr 0 (.tmp 22), none⟩, none),
  (⟨some 24, .load true [.int .i64, .int .i64] (.tmp 23), none⟩, none),
  (⟨some 25, .fieldAddr 0 (.tmp 8), none⟩, none),
  (⟨some 26, .load false [.int .i64] (.tmp 25), none⟩, none),
  (⟨some 27, .call true (.func 14) [.tmp 24, .tmp 26] [(false, [.int .i64])] true, none⟩, none),
  (⟨some 28, .mv (.tmp 1), none⟩, none),
  (⟨some 29, .bin .eql (.tmp 27) (.tmp 28), none⟩, none)]
def o8_32 : List AOper := [⟨some 30, .mv (.tmp 5), none⟩,
  ⟨some 31, .load true [.int .i64, .int .u64, .int .u64, .int .u64] (.tmp 8), none⟩,
  ⟨some 32, .buildSlice 4 1 [.int .i64 0, .int .u64 0, .int .u64 0, .int .u64 0] [(0, 4, .tmp 31)], none⟩,
  ⟨some 33, .append 4 32 (.tmp 30) (.tmp 32), none⟩,
  ⟨some 5, .mv (.tmp 33), none⟩]
def o8_34 : List (AOper × Option Nat) := [(⟨some 34, .mv (.tmp 0), none⟩, none),
  (⟨some 35, .nilCheck (.tmp 34), none⟩, none),
  (⟨some 36, .fieldAddr 3 (.tmp 35), none⟩, none),
  (⟨some 37, .load false [.any] (.tmp 36), none⟩, none),
  (⟨some 38, .fieldAddr 0 (.tmp 8), none⟩, none),
  (⟨some 39, .load false [.int .i64] (.tmp 38), none⟩, none),
  (⟨none, .map .del .i64 .i64 (.tmp 37) (.tmp 39) (.const (.bool false)), none⟩, none)]
def o8_38 : List (AOper × Option Nat) := [(⟨some 40, .mv (.tmp 0), none⟩, none),
  (⟨some 41, .nilCheck (.tmp 40), none⟩, none),
  (⟨some 42, .fieldAddr 3 (.tmp 41), none⟩, none),
  (⟨some 43, .load false [.any] (.tmp 42), none⟩, none),
  (⟨some 44, .fieldAddr 0 (.tmp 8), none⟩, none),
  (⟨some 45, .load false [.int .i64] (.tmp 44), none⟩, none),
  (⟨some 46, .mv (.tmp 6), none⟩, none),
  (⟨some 47, .len (.tmp 46), none⟩, none),
  (⟨none, .map .upd .i64 .i64 (.tmp 43) (.tmp 45) (.tmp 47), none⟩, none)]
def o8_39 : List AOper := [⟨some 48, .mv (.tmp 6), none⟩,
  ⟨some 49, .load true [.int .i64, .int .u64, .int .u64, .int .u64] (.tmp 8), none⟩,
  ⟨some 50, .buildSlice 4 1 [.int .i64 0, .int .u64 0, .int .u64 0, .int .u64 0] [(0, 4, .tmp 49)], none⟩,
  ⟨some 51, .append 4 32 (.tmp 48) (.tmp 50), none⟩,
  ⟨some 6, .mv (.tmp 51), none⟩]
def o8_40 : List AOper := [⟨some 52, .bin .add (.tmp 17) (.const (.int .i64 1)), none⟩,
  ⟨some 17, .mv (.tmp 52), none⟩]
def c8_40 : ACode := .ops o8_40
def b8_16 : ACode := .post (.seq (.ops o8_18) (.seq (.cond (.tmp 18) (.skip) (.exit 0)) (.seq (.block 1 (.seq (.ops o8_26) (.seq (.seq (.draw [] 0 o8_29 []) (.cond (.tmp 29) (.seq (.ops o8_32) (.seq (.draw [] 0 o8_34 []) (.exit 1))) (.skip))) (.seq (.draw [] 0 o8_38 []) (.ops o8_39))))) (.clear zl14 c8_40)))) zl14
def o8_42 : List AOper := [⟨some 53, .mv (.tmp 0), none⟩,
  ⟨some 54, .mv (.tmp 6), none⟩,
  ⟨some 55, .nilCheck (.tmp 53), none⟩,
  ⟨some 56, .fieldAddr 4 (.tmp 55), none⟩,
  ⟨none, .store 1 (.tmp 56) (.tmp 54), none⟩]
def o8_44 : List AOper := [⟨some 57, .mv (.tmp 5), none⟩,
  ⟨some 4, .mv (.tmp 57), none⟩]
def c8_41 : ACode := .seq (.ops o8_42) (.seq (.ops o8_44) (.ret))
def c8_0 : ACode := .seq (.ops o8_1) (.seq (.seq (.ops o8_4) (.cond (.tmp 11) (.seq (.ops o8_7) (.ret)) (.skip))) (.seq (.ops o8_11) (.seq (.seq (.ops o8_14) (.block 0 (.clear zl14 (.loop b8_16)))) (.clear zl15 c8_41))))
def a8 : AFun := ⟨58, [.tmp 4], c8_0⟩
theorem ok8 : OkFun Try.prog 8 a8 := ⟨Try.f8, Try.f8.body.getD .skip, Try.func8, by kernel_rfl, by kernel_rfl, by kernel_rfl, by kernel_rfl, by kernel_rfl⟩
/-! #### combine.Buffer.Len -/
def o9_1 : List AOper := [⟨some 2, .mv (.const (.int .i64 0)), none⟩]
def o9_4 : List AOper := [⟨some 3, .mv (.tmp 0), none⟩,
  ⟨some 4, .call false (.func 13) [.tmp 3] [(false, [.bool])] true, none⟩,
  ⟨some 5, .un .not (.tmp 4), none⟩]
def o9_7 : List AOper := [⟨some 2, .mv (.const (.int .i64 0)), none⟩]
def o9_11 : List AOper := [⟨some 6, .mv (.tmp 0), none⟩,
  ⟨some 7, .nilCheck (.tmp 6), none⟩,
  ⟨some 8, .fieldAddr 4 (.tmp 7), none⟩,
  ⟨some 9, .load false [.slice] (.tmp 8), none⟩,
  ⟨some 10, .len (.tmp 9), none⟩,
  ⟨some 2, .mv (.tmp 10), none⟩]
def c9_0 : ACode := .seq (.ops o9_1) (.seq (.seq (.ops o9_4) (.cond (.tmp 5) (.seq (.ops o9_7) (.ret)) (.skip))) (.seq (.ops o9_11) (.ret)))
def a9 : AFun := ⟨11, [.tmp 2], c9_0⟩
theorem ok9 : OkFun Try.prog 9 a9 := ⟨Try.f9, Try.f9.body.getD .skip, Try.func9, by kernel_rfl, by kernel_rfl, by kernel_rfl, by kernel_rfl, by kernel_rfl⟩
/-! #### combine.Buffer.Stripes -/
def o10_1 : List AOper := [⟨some 2, .mv (.const (.slice none 0 0)), none⟩]
def o10_4 : List AOper := [⟨some 6, .mv (.tmp 0), none⟩,
  ⟨some 7, .call false (.func 13) [.tmp 6] [(false, [.bool])] true, none⟩,
  ⟨some 8, .un .not (.tmp 7), none⟩]
def o10_7 : List AOper := [⟨some 2, .mv (.const (.slice none 0 0)), none⟩]
def o10_11 : List AOper := [⟨some 3, .mv (.const (.slice none 0 0)), none⟩]
def o10_14 : List AOper := [⟨some 9, .mv (.tmp 0), none⟩,
  ⟨some 10, .nilCheck (.tmp 9), none⟩,
  ⟨some 11, .fieldAddr 4 (.tmp 10), none⟩,
  ⟨some 12, .load false [.slice] (.tmp 11), none⟩,
  ⟨some 13, .len (.tmp 12), none⟩,
  ⟨some 14, .mv (.const (.int .i64 0)), none⟩]
def o10_18 : List AOper := [⟨some 15, .bin .lss (.tmp 14) (.tmp 13), none⟩]
def o10_26 : List AOper := [⟨some 16, .indexAddr 4 (.tmp 12) (.tmp 14), none⟩,
  ⟨some 17, .load true [.int .i64, .int .u64, .int .u64, .int .u64] (.tmp 16), none⟩,
  ⟨some 5, .alloc [.int .i64 0, .int .u64 0, .int .u64 0, .int .u64 0], none⟩,
  ⟨none, .store 4 (.tmp 5) (.tmp 17), none⟩]
def o10_27 : List (AOper × Option Nat) := [(⟨some 18, .mv (.tmp 3), none⟩, none),
  (⟨some 19, .mv (.tmp 0), none⟩, none),
  (⟨some 20, .nilCheck (.tmp 19), none⟩, none),
  (⟨some 21, .fieldAddr 0 (.tmp 20), none⟩, none),
  (⟨some 22, .load true [.int .i64, .int .i64] (.tmp 21), none⟩, none),
  (⟨some 23, .fieldAddr 0 (.tmp 5), none⟩, none),
  (⟨some 24, .load false [.int .i64] (.tmp 23), none⟩, none),
  (⟨some 25, .call true (.func 14) [.tmp 22, .tmp 24] [(false, [.int .i64])] true, none⟩, none),
  (⟨some 26, .buildSlice 1 1 [.int .i64 0] [(0, 1, .tmp 25)], none⟩, none),
  (⟨some 27, .append 1 8 (.tmp 18) (.tmp 26), none⟩, none),
  (⟨some 3, .mv (.tmp 27), none⟩, none)]
def o10_28 : List AOper := [⟨some 28, .bin .add (.tmp 14) (.const (.int .i64 1)), none⟩,
  ⟨some 14, .mv (.tmp 28), none⟩]
def c10_28 : ACode := .ops o10_28
def b10_16 : ACode := .post (.seq (.ops o10_18) (.seq (.cond (.tmp 15) (.skip) (.exit 0)) (.seq (.block 1 (.seq (.ops o10_26) (.draw [] 0 o10_27 []))) (.clear zl16 c10_28)))) zl16
def o10_30 : List AOper := [⟨some 29, .mv (.tmp 3), none⟩,
  ⟨some 30, .call false (.func 16) [.tmp 29] [] false, none⟩]
def o10_32 : List AOper := [⟨some 31, .mv (.tmp 3), none⟩,
  ⟨some 32, .call false (.func 17) [.tmp 31] [(false, [.slice])] true, none⟩,
  ⟨some 2, .mv (.tmp 32), none⟩]
def c10_29 : ACode := .seq (.ops o10_30) (.seq (.ops o10_32) (.ret))
def c10_0 : ACode := .seq (.ops o10_1) (.seq (.seq (.ops o10_4) (.cond (.tmp 8) (.seq (.ops o10_7) (.ret)) (.skip))) (.seq (.ops o10_11) (.seq (.seq (.ops o10_14) (.block 0 (.clear zl16 (.loop b10_16)))) (.clear zl17 c10_29))))
def a10 : AFun := ⟨33, [.tmp 2], c10_0⟩
theorem ok10 : OkFun Try.prog 10 a10 := ⟨Try.f10, Try.f10.body.getD .skip, Try.func10, by kernel_rfl, by kernel_rfl, by kernel_rfl, by kernel_rfl, by kernel_rfl⟩
/-! #### combine.Buffer.Get -/
def o11_1 : List AOper := [⟨some 4, .alloc [.int .u64 0, .int .u64 0, .int .u64 0], none⟩,
  ⟨some 5, .mv (.const (.bool false)), none⟩]
def o11_4 : List AOper := [⟨some 8, .mv (.tmp 0), none⟩,
  ⟨some 9, .call false (.func 13) [.tmp 8] [(false, [.bool])] true, none⟩,
  ⟨some 10, .un .not (.tmp 9), none⟩]
def o11_7 : List AOper := [⟨some 11, .build [.int .u64 0, .int .u64 0, .int .u64 0] [], none⟩,
  ⟨none, .store 3 (.tmp 4) (.tmp 11), none⟩,
  ⟨some 5, .mv (.const (.bool false)), none⟩]
def o11_11 : List AOper := [⟨some 13, .mv (.tmp 0), none⟩,
  ⟨some 14, .nilCheck (.tmp 13), none⟩,
  ⟨some 15, .fieldAddr 3 (.tmp 14), none⟩,
  ⟨some 16, .load false [.any] (.tmp 15), none⟩,
  ⟨some 17, .mv (.tmp 1), none⟩,
  ⟨some 18, .map (.look true) .i64 .i64 (.tmp 16) (.tmp 17) (.const (.bool false)), none⟩,
  ⟨some 12, .mv (.tmp 18), none⟩,
  ⟨some 19, .extract (.tmp 12) 0, none⟩,
  ⟨some 20, .extract (.tmp 12) 1, none⟩,
  ⟨some 6, .mv (.tmp 19), none⟩,
  ⟨some 7, .mv (.tmp 20), none⟩]
def o11_14 : List AOper := [⟨some 21, .mv (.tmp 7), none⟩,
  ⟨some 22, .un .not (.tmp 21), none⟩]
def o11_17 : List AOper := [⟨some 23, .build [.int .u64 0, .int .u64 0, .int .u64 0] [], none⟩,
  ⟨none, .store 3 (.tmp 4) (.tmp 23), none⟩,
  ⟨some 5, .mv (.const (.bool false)), none⟩]
def o11_21 : List AOper := [⟨some 24, .mv (.tmp 0), none⟩,
  ⟨some 25, .nilCheck (.tmp 24), none⟩,
  ⟨some 26, .fieldAddr 4 (.tmp 25), none⟩,
  ⟨some 27, .load false [.slice] (.tmp 26), none⟩,
  ⟨some 28, .mv (.tmp 6), none⟩,
  ⟨some 29, .indexAddr 4 (.tmp 27) (.tmp 28), none⟩,
  ⟨some 30, .fieldAddr 1 (.tmp 29), none⟩,
  ⟨some 31, .load true [.int .u64, .int .u64, .int .u64] (.tmp 30), none⟩,
  ⟨none, .store 3 (.tmp 4) (.tmp 31), none⟩,
  ⟨some 5, .mv (.const (.bool true)), none⟩]
def c11_0 : ACode := .seq (.ops o11_1) (.seq (.seq (.ops o11_4) (.cond (.tmp 10) (.seq (.ops o11_7) (.ret)) (.skip))) (.seq (.ops o11_11) (.seq (.seq (.ops o11_14) (.cond (.tmp 22) (.seq (.ops o11_17) (.ret)) (.skip))) (.seq (.ops o11_21) (.ret)))))
def a11 : AFun := ⟨32, [.cell true [.int .u64, .int .u64, .int .u64] 4, .tmp 5], c11_0⟩
theorem ok11 : OkFun Try.prog 11 a11 := ⟨Try.f11, Try.f11.body.getD .skip, Try.func11, by kernel_rfl, by kernel_rfl, by kernel_rfl, by kernel_rfl, by kernel_rfl⟩
/-! #### layout.Right -/
def o12_1 : List AOper := [⟨some 1, .box (.tmp 0), none⟩,
  ⟨some 2, .mv (.const (.bool false)), none⟩]
def o12_3 : List AOper := [⟨some 3, .fieldAddr 0 (.tmp 1), none⟩,
  ⟨some 4, .load false [.int .i64] (.tmp 3), none⟩,
  ⟨some 5, .bin .leq (.const (.int .i64 1)) (.tmp 4), none⟩,
  ⟨some 6, .mv (.tmp 5), none⟩,
  ⟨some 7, .fieldAddr 0 (.tmp 1), some (6, true)⟩,
  ⟨some 8, .load false [.int .i64] (.tmp 7), some (6, true)⟩,
  ⟨some 9, .bin .leq (.tmp 8) (.const (.int .i64 65536)), some (6, true)⟩,
  ⟨some 10, .pick (.tmp 6) (.tmp 9) (.const (.bool false)), none⟩,
  ⟨some 11, .mv (.tmp 10), none⟩,
  ⟨some 12, .fieldAddr 1 (.tmp 1), some (11, true)⟩,
  ⟨some 13, .load false [.int .i64] (.tmp 12), some (11, true)⟩,
  ⟨some 14, .bin .leq (.const (.int .i64 1)) (.tmp 13), some (11, true)⟩,
  ⟨some 15, .pick (.tmp 11) (.tmp 14) (.const (.bool false)), none⟩,
  ⟨some 16, .mv (.tmp 15), none⟩,
  ⟨some 17, .fieldAddr 1 (.tmp 1), some (16, true)⟩,
  ⟨some 18, .load false [.int .i64] (.tmp 17), some (16, true)⟩,
  ⟨some 19, .bin .leq (.tmp 18) (.const (.int .i64 256)), some (16, true)⟩,
  ⟨some 20, .pick (.tmp 16) (.tmp 19) (.const (.bool false)), none⟩,
  ⟨some 2, .mv (.tmp 20), none⟩]
def c12_0 : ACode := .seq (.ops o12_1) (.seq (.ops o12_3) (.ret))
def a12 : AFun := ⟨21, [.tmp 2], c12_0⟩
theorem ok12 : OkFun Try.prog 12 a12 := ⟨Try.f12, Try.f12.body.getD .skip, Try.func12, by kernel_rfl, by kernel_rfl, by kernel_rfl, by kernel_rfl, by kernel_rfl⟩
/-! #### combine.Buffer.given -/
def o13_1 : List AOper := [⟨some 2, .mv (.const (.bool false)), none⟩]
def o13_3 : List AOper := [⟨some 3, .mv (.tmp 0), none⟩,
  ⟨some 4, .eqNil 0 true (.tmp 3), none⟩,
  ⟨some 5, .mv (.tmp 4), none⟩,
  ⟨some 6, .mv (.tmp 0), some (5, true)⟩,
  ⟨some 7, .nilCheck (.tmp 6), some (5, true)⟩,
  ⟨some 8, .fieldAddr 3 (.tmp 7), some (5, true)⟩,
  ⟨some 9, .load false [.any] (.tmp 8), some (5, true)⟩,
  ⟨some 10, .eqNil 3 true (.tmp 9), some (5, true)⟩,
  ⟨some 11, .pick (.tmp 5) (.tmp 10) (.const (.bool false)), none⟩,
  ⟨some 2, .mv (.tmp 11), none⟩]
def c13_0 : ACode := .seq (.ops o13_1) (.seq (.ops o13_3) (.ret))
def a13 : AFun := ⟨12, [.tmp 2], c13_0⟩
theorem ok13 : OkFun Try.prog 13 a13 := ⟨Try.f13, Try.f13.body.getD .skip, Try.func13, by kernel_rfl, by kernel_rfl, by kernel_rfl, by kernel_rfl, by kernel_rfl⟩
/-! #### layout.Stripe -/
def o14_1 : List AOper := [⟨some 2, .box (.tmp 0), none⟩,
  ⟨some 4, .mv (.const (.int .i64 0)), none⟩]
def o14_4 : List AOper := [⟨some 5, .load true [.int .i64, .int .i64] (.tmp 2), none⟩,
  ⟨some 6, .call true (.func 12) [.tmp 5] [(false, [.bool])] true, none⟩,
  ⟨some 7, .un .not (.tmp 6), none⟩,
  ⟨some 8, .mv (.tmp 7), none⟩,
  ⟨some 9, .mv (.tmp 1), some (8, false)⟩,
  ⟨some 10, .bin .lss (.tmp 9) (.const (.int .i64 0)), some (8, false)⟩,
  ⟨some 11, .pick (.tmp 8) (.const (.bool true)) (.tmp 10), none⟩,
  ⟨some 12, .mv (.tmp 11), none⟩,
  ⟨some 13, .mv (.tmp 1), some (12, false)⟩,
  ⟨some 14, .fieldAddr 0 (.tmp 2), some (12, false)⟩,
  ⟨some 15, .load false [.int .i64] (.tmp 14), some (12, false)⟩,
  ⟨some 16, .bin .geq (.tmp 13) (.tmp 15), some (12, false)⟩,
  ⟨some 17, .pick (.tmp 12) (.const (.bool true)) (.tmp 16), none⟩]
def o14_7 : List AOper := [⟨some 4, .mv (.const (.int .i64 (-1))), none⟩]
def o14_11 : List AOper := [⟨some 18, .mv (.tmp 1), none⟩,
  ⟨some 19, .fieldAddr 1 (.tmp 2), none⟩,
  ⟨some 20, .load false [.int .i64] (.tmp 19), none⟩,
  ⟨some 21, .bin .rem (.tmp 18) (.tmp 20), none⟩,
  ⟨some 4, .mv (.tmp 21), none⟩]
def c14_0 : ACode := .seq (.ops o14_1) (.seq (.seq (.ops o14_4) (.cond (.tmp 17) (.seq (.ops o14_7) (.ret)) (.skip))) (.seq (.ops o14_11) (.ret)))
def a14 : AFun := ⟨22, [.tmp 4], c14_0⟩
theorem ok14 : OkFun Try.prog 14 a14 := ⟨Try.f14, Try.f14.body.getD .skip, Try.func14, by kernel_rfl, by kernel_rfl, by kernel_rfl, by kernel_rfl, by kernel_rfl⟩
/-! #### hue.Weight -/
def o15_1 : List AOper := [⟨some 1, .box (.tmp 0), none⟩,
  ⟨some 2, .mv (.const (.bool false)), none⟩]
def o15_3 : List AOper := [⟨some 3, .load true [.int .i64, .int .i64, .int .i64] (.tmp 1), none⟩,
  ⟨some 4, .call true (.func 18) [.tmp 3] [(true, [.int .i64, .int .i64, .int .i64])] true, none⟩,
  ⟨some 5, .call true (.func 19) [.tmp 4, .const (.int .i64 1099511627776)] [(false, [.bool])] true, none⟩,
  ⟨some 2, .mv (.tmp 5), none⟩]
def c15_0 : ACode := .seq (.ops o15_1) (.seq (.ops o15_3) (.ret))
def a15 : AFun := ⟨6, [.tmp 2], c15_0⟩
theorem ok15 : OkFun Try.prog 15 a15 := ⟨Try.f15, Try.f15.body.getD .skip, Try.func15, by kernel_rfl, by kernel_rfl, by kernel_rfl, by kernel_rfl, by kernel_rfl⟩
/-! #### hue.of -/
def o18_1 : List AOper := [⟨some 1, .box (.tmp 0), none⟩,
  ⟨some 2, .alloc [.int .i64 0, .int .i64 0, .int .i64 0], none⟩]
def o18_3 : List AOper := [⟨some 3, .fieldAddr 0 (.tmp 1), none⟩,
  ⟨some 4, .load false [.int .i64] (.tmp 3), none⟩,
  ⟨some 5, .fieldAddr 1 (.tmp 1), none⟩,
  ⟨some 6, .load false [.int .i64] (.tmp 5), none⟩,
  ⟨some 7, .fieldAddr 2 (.tmp 1), none⟩,
  ⟨some 8, .load false [.int .i64] (.tmp 7), none⟩,
  ⟨some 9, .build [.int .i64 0, .int .i64 0, .int .i64 0] [(0, 1, .tmp 4), (1, 1, .tmp 6), (2, 1, .tmp 8)], none⟩,
  ⟨none, .store 3 (.tmp 2) (.tmp 9), none⟩]
def c18_0 : ACode := .seq (.ops o18_1) (.seq (.ops o18_3) (.ret))
def a18 : AFun := ⟨10, [.cell true [.int .i64, .int .i64, .int .i64] 2], c18_0⟩
theorem ok18 : OkFun Try.prog 18 a18 := ⟨Try.f18, Try.f18.body.getD .skip, Try.func18, by kernel_rfl, by kernel_rfl, by kernel_rfl, by kernel_rfl, by kernel_rfl⟩
/-! #### hue.channels.within -/
def o19_1 : List AOper := [⟨some 2, .box (.tmp 0), none⟩,
  ⟨some 4, .mv (.const (.bool false)), none⟩]
def o19_4 : List AOper := [⟨some 7, .load true [.int .i64, .int .i64, .int .i64] (.tmp 2), none⟩,
  ⟨some 8, .mv (.const (.int .i64 0)), none⟩]
def o19_8 : List AOper := [⟨some 9, .bin .lss (.tmp 8) (.const (.int .i64 3)), none⟩]
def o19_16 : List AOper := [⟨some 10, .index false 3 1 (.tmp 7) (.tmp 8), none⟩,
  ⟨some 6, .mv (.tmp 10), none⟩]
def o19_18 : List AOper := [⟨some 11, .mv (.tmp 6), none⟩,
  ⟨some 12, .bin .lss (.tmp 11) (.const (.int .i64 0)), none⟩,
  ⟨some 13, .mv (.tmp 12), none⟩,
  ⟨some 14, .mv (.tmp 6), some (13, false)⟩,
  ⟨some 15, .mv (.tmp 1), some (13, false)⟩,
  ⟨some 16, .bin .gtr (.tmp 14) (.tmp 15), some (13, false)⟩,
  ⟨some 17, .pick (.tmp 13) (.const (.bool true)) (.tmp 16), none⟩]
def o19_21 : List AOper := [⟨some 4, .mv (.const (.bool false)), none⟩]
def o19_24 : List AOper := [⟨some 18, .bin .add (.tmp 8) (.const (.int .i64 1)), none⟩,
  ⟨some 8, .mv (.tmp 18), none⟩]
def c19_24 : ACode := .ops o19_24
def b19_6 : ACode := .post (.seq (.ops o19_8) (.seq (.cond (.tmp 9) (.skip) (.exit 0)) (.seq (.block 1 (.seq (.ops o19_16) (.seq (.ops o19_18) (.cond (.tmp 17) (.seq (.ops o19_21) (.ret)) (.skip))))) (.clear zl18 c19_24)))) zl18
def o19_26 : List AOper := [⟨some 4, .mv (.const (.bool true)), none⟩]
def c19_25 : ACode := .seq (.ops o19_26) (.ret)
def c19_0 : ACode := .seq (.ops o19_1) (.seq (.seq (.ops o19_4) (.block 0 (.clear zl18 (.loop b19_6)))) (.clear zl19 c19_25))
def a19 : AFun := ⟨19, [.tmp 4], c19_0⟩
theorem ok19 : OkFun Try.prog 19 a19 := ⟨Try.f19, Try.f19.body.getD .skip, Try.func19, by kernel_rfl, by kernel_rfl, by kernel_rfl, by kernel_rfl, by kernel_rfl⟩
end Go.Proofs.Ytjcmnchkgnmooaa
